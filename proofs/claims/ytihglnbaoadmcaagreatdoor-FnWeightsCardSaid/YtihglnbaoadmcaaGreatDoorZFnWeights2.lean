/-
  Texts put together: FI2, CT1, CT2, ShP, WM, PW3, PW4, TB1, J2, PP2, V2, N1, K2, K3, N2, M0, U1, U2, V3, FI3, FS1, PI1, PS1, FM1, RF1, RF2. What each proves stands at its own head, with its conditions.
-/
import Derived.Test.YtihglnbaoadmcaaGreatDoorZFnWeights1
import Derived.Lib.IndexLaws
import Derived.Lib.LaidTab
import Derived.Lib.AtoiAll
import Derived.Lib.Split
import Derived.Lib.CountLaws

set_option linter.unusedSimpArgs false
set_option linter.unusedVariables false
/-
  Lists of strings; strings.Join; numbers joined: contracts.
-/
namespace Go.Sh
open Go Go.Proofs

theorem zj (L : List (List UInt8)) : (strs L).length = L.length := by simp [strs]
theorem zn {L : List (List UInt8)} {k : Nat} (h : k < L.length) : (strs L)[k]? = some (str (L.getD k [])) := by simp [strs, h]
theorem strs_set (L : List (List UInt8)) (k : Nat) (x : List UInt8) : (strs L).set k (.val (.string (sb x))) = strs (L.set k x) := by simp [strs, List.map_set]
theorem strs_append (A B : List (List UInt8)) : strs A ++ strs B = strs (A ++ B) := by simp [strs]
theorem strs_snoc (A : List (List UInt8)) (x : List UInt8) : strs A ++ [.val (.string (sb x))] = strs (A ++ [x]) := by simp [strs]
theorem strs_replicate (n : Nat) (x : List UInt8) : List.replicate n (SV.val (.string (sb x))) = strs (List.replicate n x) := by simp [strs]
theorem strs_nil : strs [] = [] := rfl
theorem noRowL_strs : ∀ L : List (List UInt8), noRowL (strs L) = true
  | [] => rfl
  | x :: L => by
    have := noRowL_strs L
    simp only [strs, List.map_cons, noRowL, noRow, Bool.true_and] at this ⊢
    exact this
theorem viewL_strs {H : Heap} {f : Nat} : ∀ L : List (List UInt8), viewL H f (strs L) = some (strs L)
  | [] => z7
  | x :: L => z6 zd (viewL_strs L)
theorem view_ownS {H : Heap} {b n f cap : Nat} {ex e2 : Bool} {L : List (List UInt8)} (hb : H.map b = some ⟨strs L, e2⟩) (hn : n = L.length) : view H (f + 1) (.own b 0 n cap 1 ex) = some (rst L) := by
  subst hn
  simp only [Sh.view, hb, Nat.mul_one, List.drop_zero]
  rw [if_pos (by simp [strs])]
  have : (strs L).take L.length = strs L := by rw [← zj L, List.take_length]
  rw [this, viewL_strs, rst]
theorem view_nilS {H : Heap} {f : Nat} : view H f (.val (.slice none 0 0)) = some (rst []) := by simp only [view, viewV, rst, strs, List.map_nil, List.length_nil]
attribute [go_sem] sb_empty

def fillS (L : List (List UInt8)) (k : Nat) : List (List UInt8) := L.take k ++ List.replicate (L.length - k) []
theorem fillS_zero (L : List (List UInt8)) : fillS L 0 = List.replicate L.length [] := by simp [fillS]
theorem fillS_length (L : List (List UInt8)) (k : Nat) (h : k ≤ L.length) : (fillS L k).length = L.length := by simp [fillS]; omega
theorem fillS_set (L : List (List UInt8)) (k : Nat) (h : k < L.length) : (fillS L k).set k (L.getD k []) = fillS L (k + 1) := by
  apply List.ext_getElem?
  intro i
  simp [fillS, List.getElem?_set, List.getElem?_append, List.getElem?_take, List.getElem?_replicate]
  grind
theorem fillS_all (L : List (List UInt8)) : fillS L L.length = L := by simp [fillS]

theorem Tryz.strJoin_ok (xs : List (List UInt8)) (sep : List UInt8) (hn : xs.length ≤ 140737488355328) (hlen : (Lib.join xs sep).length ≤ 140737488355328) : PCall Tryz.prog 125 [rst xs, str sep] (str (Lib.join xs sep)) := by
  refine ⟨⟨_, Tryz.func125, rfl, rfl⟩, fun w vs hl _ => ?_⟩
  simp only [LRel, rst, VRel] at hl
  obtain ⟨v, rest, rfl, ⟨a, cap, rfl, h2, h3, h4⟩, v2, rest2, rfl, rfl, rfl⟩ := hl
  have emp : xs.length = 0 → Calls Tryz.prog 125 #[.slice a 0 cap, .string (sb sep)] w (fun e w' => ∃ v, e = .returned v ∧ RowKit.Below w.heap.size w w' ∧ VRel (fun k => k < w.heap.size) w' noj (str (Lib.join xs sep)) v) := fun h0 => by
    obtain rfl : xs = [] := List.length_eq_zero_iff.1 h0
    refine (Tryz.strings_Join_none a cap (sb sep) w).mono ?_
    rintro e w' ⟨rfl, rfl⟩
    refine ⟨_, rfl, RowKit.Below.refl _ _, ?_⟩
    simp only [VRel]; rfl
  by_cases h0 : xs.length = 0
  · rw [h0]; exact emp h0
  rcases h4 with ⟨_, h5, _⟩ | ⟨b, rfl, h5⟩
  · omega
  have hcell : ∀ (j : Nat) x, (xs.map sb)[j]? = some x → w.cell? ⟨b.block, b.off + j, none⟩ = some (.string x) := fun j x hj => by
    simp only [List.getElem?_map, Option.map_eq_some_iff] at hj
    obtain ⟨y, hy, rfl⟩ := hj
    obtain ⟨v, _, _, g1, g2⟩ := CRel.get (i := j) (s := str y) h5 (by simp [strs, hy])
    simp only [VRel] at g2
    rw [g1, g2]
  have hs : b.spot = none := by
    obtain ⟨v, g, _⟩ := CRel.get (i := 0) (s := str (xs.getD 0 [])) h5 (zn (by omega))
    exact g
  obtain ⟨bk, o, sp⟩ := b
  simp only at hs hcell
  subst hs
  have hbk : bk < w.heap.size := by
    have g := hcell 0 (sb (xs.getD 0 [])) (by
      have : 0 < xs.length := by omega
      simp [this])
    exact w.block_lt_of_cell? _ g
  have e1 : (xs.map sb).map (·.data.toList) = xs := by
    rw [List.map_map]
    conv => rhs; rw [← List.map_id xs]
    exact List.map_congr_left fun x _ => sb_data x
  have := Tryz.strings_Join bk o cap (xs.map sb) (sb sep) w hcell hbk (by simpa using hn) (by simpa using h2) (by rw [e1, sb_data]; exact hlen)
  rw [e1, sb_data, List.length_map] at this
  refine this.mono ?_
  rintro e w' ⟨rfl, h⟩
  refine ⟨_, rfl, h, ?_⟩
  simp only [VRel]; rfl

set_option maxHeartbeats 4000000 in
theorem Tryz.joinInts_ok (L : List Int) (sep : List UInt8) (hL : L.length ≤ 1048576) (hF : ∀ i, i < L.length → PCall Tryz.prog 124 [.val (.int .i64 (L.getD i 0))] (str (Lib.itoa (L.getD i 0))))
    (hlen : (Lib.join (L.map Lib.itoa) sep).length ≤ 140737488355328) : PCall Tryz.prog 74 [ri L, str sep] (str (Lib.join (L.map Lib.itoa) sep)) := by
  have hJ := Tryz.strJoin_ok (L.map Lib.itoa) sep (by simp; omega) hlen
  refine FCall.pcall (R := fun r _ => r = str (Lib.join (L.map Lib.itoa) sep)) ?_ 0 (by rintro r H rfl; exact zd)
  refine FCall.of_body Tryz.func74 rfl (by kernel_rfl) (by simp [Tryz.ntmps74]) ?_
  refine SW_of_vc Tryz.mixed _ _ _ (by kernel_rfl) ?_
  simp (disch := omega) only [go_sem]
  have hml : (L.map Lib.itoa).length = L.length := by simp
  refine LoopW.loop (fun k : Nat => ⟨ofL [(1, str sep), (5, .own 0 0 L.length L.length 1 true), (11, ri L), (12, .val (.int .i64 L.length)), (13, .val (.int .i64 k))], hp [(0, ⟨strs (fillS (L.map Lib.itoa) k), true⟩)] 1⟩) (fun k => k ≤ L.length) (fun k => L.length - k) 0 (by omega)
    (Wk.of (by simp only [go_sem, ↓List.forall_mem_cons, List.not_mem_nil, false_implies, implies_true, and_true, true_and, and_self, ri_eq, Int.natCast_add, Int.cast_ofNat_Int]; try simp) (by simp only [fillS_zero, hml, ← strs_replicate])) ?_
  intro k hk
  have hf := fillS_length (L.map Lib.itoa) k (by omega)
  refine SW_of_vc Tryz.mixed _ _ _ (by kernel_rfl) ?_
  by_cases hlt : k < L.length
  · have hg : (L.map Lib.itoa).getD k [] = Lib.itoa (L.getD k 0) := by simp [hlt]
    have hst := fillS_set (L.map Lib.itoa) k (by omega)
    rw [hg] at hst
    have g1 := ints_get hlt
    simp (disch := omega) only [go_sem, g1]
    refine (hF k hlt).callV 0 (z6 (z8) z7) ?_
    simp (disch := omega) only [go_sem, hf, hml, zj, strs_set, hst]
    exact ⟨k + 1, by omega, by omega, Wk.of (by simp only [go_sem, ↓List.forall_mem_cons, List.not_mem_nil, false_implies, implies_true, and_true, true_and, and_self, ri_eq, Int.natCast_add, Int.cast_ofNat_Int]; try simp) rfl⟩
  · obtain rfl : k = L.length := by omega
    have hall : fillS (L.map Lib.itoa) L.length = L.map Lib.itoa := by rw [← hml]; exact fillS_all _
    rw [hall]
    simp (disch := omega) only [go_sem]
    refine hJ.callV 2 (z6 (view_ownS (e2 := true) (L := L.map Lib.itoa) (by first | rfl | (simp (disch := omega) only [hx_map, hp_map, zl, zm, zk, xmap_nil, if_pos, if_neg, ↓reduceIte]; try rfl)) (by simp)) (z6 zd z7)) ?_
    simp (disch := omega) only [go_sem]
    exact Fin.val rfl
end Go.Sh

/-
  Strings cut at a byte: contracts.
-/
namespace Go.Sh
open Go Go.Proofs

theorem Tryz.count_ok (s : List UInt8) (c : UInt8) : PCall Tryz.prog 172 [str s, str [c]] (.val (.int .i64 (s.count c))) := by
  refine ⟨⟨_, Tryz.func172, rfl, rfl⟩, fun w vs hl _ => ?_⟩
  simp only [LRel, VRel] at hl
  obtain ⟨v, rest, rfl, rfl, v2, rest2, rfl, rfl, rfl⟩ := hl
  refine (Tryz.strings_Count_one (sb s) c w).mono ?_
  rintro e w' ⟨rfl, rfl⟩
  refine ⟨_, rfl, RowKit.Below.refl _ _, ?_⟩
  simp only [VRel, sb_data]; rfl
theorem Tryz.index_ok (s : List UInt8) (c : UInt8) : PCall Tryz.prog 173 [str s, str [c]] (.val (.int .i64 (Lib.indexByte s c))) := by
  refine ⟨⟨_, Tryz.func173, rfl, rfl⟩, fun w vs hl _ => ?_⟩
  simp only [LRel, VRel] at hl
  obtain ⟨v, rest, rfl, rfl, v2, rest2, rfl, rfl, rfl⟩ := hl
  refine (Tryz.strings_Index_one (sb s) c w).mono ?_
  rintro e w' ⟨rfl, rfl⟩
  refine ⟨_, rfl, RowKit.Below.refl _ _, ?_⟩
  simp only [VRel, sb_data]
theorem cutL_idx (s : List UInt8) (c : UInt8) : (Lib.indexByte s c = -1 ∧ cutL c s = [s]) ∨ ∃ m : Nat, Lib.indexByte s c = m ∧ m < s.length ∧ cutL c s = s.take m :: cutL c (s.drop (m + 1)) := by
  have hge := Lib.indexByte_ge s c
  by_cases h : Lib.indexByte s c = -1
  · refine .inl ⟨h, cutL_last fun k hk e => ?_⟩
    refine Lib.indexByte_none h k ?_
    rw [List.getElem?_eq_getElem hk, ← e]; simp [hk]
  · obtain ⟨m, hm⟩ := Int.eq_ofNat_of_zero_le (a := Lib.indexByte s c) (by omega)
    obtain ⟨h1, h2⟩ := Lib.indexByte_some hm
    have hl : m < s.length := by
      rcases Nat.lt_or_ge m s.length with g | g
      · exact g
      · rw [List.getElem?_eq_none g] at h1; cases h1
    refine .inr ⟨m, hm, hl, cutL_first hl (by simpa [hl] using h1) fun k hk e => h2 k hk ?_⟩
    rw [List.getElem?_eq_getElem (by omega), ← e]; simp [show k < s.length by omega]
theorem count_drop (s : List UInt8) (c : UInt8) (h : 0 < s.count c) : ∃ m : Nat, Lib.indexByte s c = m ∧ m < s.length ∧ cutL c s = s.take m :: cutL c (s.drop (m + 1)) ∧ (s.drop (m + 1)).count c + 1 = s.count c := by
  rcases cutL_idx s c with ⟨_, e⟩ | ⟨m, h1, h2, h3⟩
  · have := cutL_len c s
    rw [e] at this
    simp at this; omega
  · refine ⟨m, h1, h2, h3, ?_⟩
    have g1 := cutL_len c s
    have g2 := cutL_len c (s.drop (m + 1))
    rw [h3, List.length_cons, g2] at g1
    omega
def slots (P : List (List UInt8)) (n : Nat) : List (List UInt8) := P ++ List.replicate (n - P.length) []
theorem slots_length {P : List (List UInt8)} {n : Nat} (h : P.length ≤ n) : (slots P n).length = n := by simp [slots]; omega
theorem slots_set {P : List (List UInt8)} {n : Nat} (x : List UInt8) (h : P.length < n) : (slots P n).set P.length x = slots (P ++ [x]) n := by
  rw [slots, slots, List.set_append_right _ _ (Nat.le_refl _), Nat.sub_self]
  have e : n - P.length = (n - (P ++ [x]).length) + 1 := by simp; omega
  rw [e, List.replicate_succ]; simp
theorem strs_vals (L : List (List UInt8)) : (strs L).all isVal = true := by simp [strs, isVal]
theorem fin_strs {L : List (List UInt8)} {b n cap : Nat} {ex e2 : Bool} {H : Heap} (hn : n = L.length) (hb : H.map b = some ⟨strs L, e2⟩) : Fin (FlatRes L.length 1 (strs L)) (.own b 0 n cap 1 ex) H := by
  subst hn
  obtain ⟨H2, h1, _, h3, h4⟩ := flat_fin (ex := ex) (cap := cap) (n := L.length) (z := 1) (by rw [zj, Nat.mul_one]) (strs_vals L) hb
  exact ⟨H2, h1, rfl, h3, h4⟩
theorem flat_viewS {L : List (List UInt8)} {r : SV} {H : Heap} (h : FlatRes L.length 1 (strs L) r H) : view H 1 r = some (rst L) := by
  obtain ⟨b, off, cap, ex, blk, rfl, h1, h2, h3, _⟩ := h
  rw [Nat.mul_one] at h2 h3
  simp only [Sh.view, h1, Nat.mul_one, h2, h3, if_true, viewL_strs, rst]
set_option maxHeartbeats 4000000 in
theorem Tryz.genSplit_f (s : List UInt8) (c : UInt8) (hs : s.length ≤ 1048576) : FCall Tryz.prog 127 [str s, str [c], .val (.int .i64 0), .val (.int .i64 (-1))] (FlatRes (cutL c s).length 1 (strs (cutL c s))) := by
  have w := Tryz.count_ok s c
  have hcl : s.count c ≤ s.length := List.count_le_length
  have hlen := cutL_len c s
  have hcn : ([c] == ([] : List UInt8)) = false := rfl
  generalize hN : s.count c = N at *
  refine FCall.of_body Tryz.func127 rfl (by kernel_rfl) (by simp [Tryz.ntmps127]) ?_
  refine SW_of_vc Tryz.mixed _ _ _ (by kernel_rfl) ?_
  simp (disch := omega) only [go_sem, hcn]
  refine w.callV 0 (z6 zd (z6 zd z7)) ?_
  have hnat : ((N : Int) + 1).toNat = N + 1 := by omega
  have hsub : (N : Int) + 1 - 1 = N := by omega
  simp (disch := omega) only [go_sem, hnat, hsub]
  refine LoopW.loop (fun p : Nat × List UInt8 × List (List UInt8) => ⟨ofL [(0, str p.2.1), (1, str [c]), (2, .val (.int .i64 0)), (3, .val (.int .i64 N)), (9, .own 0 0 (N + 1) (N + 1) 1 true), (10, .val (.int .i64 p.1))], hp [(0, ⟨strs (slots p.2.2 (N + 1)), true⟩)] 1⟩)
    (fun p => p.1 ≤ N ∧ p.2.2.length = p.1 ∧ cutL c s = p.2.2 ++ cutL c p.2.1 ∧ p.2.1.count c + p.1 = N ∧ p.2.1.length ≤ 1048576) (fun p => N - p.1) (0, s, []) ⟨by simp, rfl, rfl, by simpa using hN, hs⟩
    (Wk.of (by simp only [go_sem, ↓List.forall_mem_cons, List.not_mem_nil, false_implies, implies_true, and_true, true_and, and_self, ri_eq, Int.natCast_add, Int.cast_ofNat_Int]; try simp) (by simp only [slots, List.nil_append, List.length_nil, Nat.sub_zero, ← strs_replicate])) ?_
  rintro ⟨k, t, P⟩ ⟨hk, hP, hc, hcnt, ht⟩
  simp only at hk hP hc hcnt ht
  have hsl : (slots P (N + 1)).length = N + 1 := slots_length (by omega)
  refine SW_of_vc Tryz.mixed _ _ _ (by kernel_rfl) ?_
  by_cases hlt : k < N
  · obtain ⟨m, m1, m2, m3, m4⟩ := count_drop t c (by omega)
    have wi := Tryz.index_ok t c
    rw [m1] at wi
    have hset := slots_set (P := P) (n := N + 1) (t.take m) (by omega)
    rw [hP] at hset
    simp (disch := omega) only [go_sem]
    refine wi.callV 0 (z6 zd (z6 zd z7)) ?_
    have t1 : ((m : Int) + 0).toNat = m := by omega
    have t2 : ((m : Int) + ((1 : Nat) : Int)).toNat = m + 1 := by omega
    have t3 : (t.drop (m + 1)).take (t.length - (m + 1)) = t.drop (m + 1) := List.take_of_length_le (by rw [List.length_drop]; exact Nat.le_refl _)
    simp (disch := omega) only [go_sem, zj, strs_set, hsl, t1, t2, t3, hset]
    exact ⟨(k + 1, t.drop (m + 1), P ++ [t.take m]), ⟨hlt, by simp [hP], by rw [hc, m3]; simp, by simp only; omega, by simp only [List.length_drop]; omega⟩, by simp only; omega, Wk.of (by simp only [go_sem, ↓List.forall_mem_cons, List.not_mem_nil, false_implies, implies_true, and_true, true_and, and_self, ri_eq, Int.natCast_add, Int.cast_ofNat_Int]; try simp) rfl⟩
  · obtain rfl : k = N := by omega
    have hone : cutL c t = [t] := by
      rcases cutL_idx t c with ⟨_, e⟩ | ⟨m, h1, h2, h3⟩
      · exact e
      · have := cutL_len c t
        have g2 := cutL_len c (t.drop (m + 1))
        rw [h3, List.length_cons] at this
        omega
    have hset := slots_set (P := P) (n := k + 1) t (by omega)
    rw [hP] at hset
    have hall : slots (P ++ [t]) (k + 1) = cutL c s := by rw [hc, hone, slots]; simp [hP]
    rw [hall] at hset
    simp (disch := omega) only [go_sem, zj, strs_set, hsl, hset, hnat]
    exact fin_strs hlen.symm (by first | rfl | (simp (disch := omega) only [hx_map, hp_map, zl, zm, zk, xmap_nil, if_pos, if_neg, ↓reduceIte]; try rfl))
theorem Tryz.split_f (s : List UInt8) (c : UInt8) (hs : s.length ≤ 1048576) : FCall Tryz.prog 76 [str s, str [c]] (FlatRes (cutL c s).length 1 (strs (cutL c s))) := by
  have w := (Tryz.genSplit_f s c hs).one
  refine FCall.of_body Tryz.func76 rfl (by kernel_rfl) (by simp [Tryz.ntmps76]) ?_
  refine SW_of_vc Tryz.mixed _ _ _ (by kernel_rfl) ?_
  simp (disch := omega) only [go_sem]
  refine w.callOne (strs_vals _) 0 (z6 zd (z6 zd (z6 z8 (z6 z8 z7)))) ?_
  simp (disch := omega) only [go_sem]
  exact fin_strs rfl (by first | rfl | (simp (disch := omega) only [hx_map, hp_map, zl, zm, zk, xmap_nil, if_pos, if_neg, ↓reduceIte]; try rfl))
theorem Tryz.split_ok (s : List UInt8) (c : UInt8) (hs : s.length ≤ 1048576) : PCall Tryz.prog 76 [str s, str [c]] (rst (cutL c s)) :=
  (Tryz.split_f s c hs).pcall 1 (fun _ _ h => flat_viewS h)
end Go.Sh

/-
  Strings cut at a byte: the reference.
-/
namespace Go.Sh
open Go Go.Proofs

theorem drop_getD {s : List UInt8} {f i : Nat} (h : f ≤ i) : (s.drop f).getD (i - f) 0 = s.getD i 0 := by
  simp [List.getD, show f + (i - f) = i by omega]
theorem sb_ix {s : List UInt8} {i : Nat} (h : i < s.length) : (if h : 0 ≤ (i : Int) ∧ i < s.length then some (SV.val (.int .u8 ((sb s)[i]'(by rw [sb_size]; exact h.2)).toNat)) else none) = some (.val (.int .u8 (s.getD i 0).toNat)) := by
  rw [dif_pos ⟨by omega, h⟩]
  simp [sb, ByteArray.getElem_eq_getElem_data, h]
set_option maxHeartbeats 4000000 in
theorem Tryz.l2Cut_f (s : List UInt8) (c : UInt8) (hs : s.length ≤ 1048576) : FCall Tryz.prog 117 [str s, .val (.int .u8 c.toNat)] (FlatRes (cutL c s).length 1 (strs (cutL c s))) := by
  refine FCall.of_body Tryz.func117 rfl (by kernel_rfl) (by simp [Tryz.ntmps117]) ?_
  refine SW_of_vc Tryz.mixed _ _ _ (by kernel_rfl) ?_
  simp (disch := omega) only [go_sem]
  refine LoopW.loop (fun p : Nat × Nat × List (List UInt8) × Nat × Nat => ⟨ofL [(0, str s), (1, .val (.int .u8 c.toNat)), (5, .own p.2.2.2.1 0 p.2.2.1.length p.2.2.1.length 1 false), (6, .val (.int .i64 p.2.1)), (7, .val (.int .i64 p.1))], hx [.blk p.2.2.2.1 ⟨strs p.2.2.1, false⟩] p.2.2.2.2⟩)
    (fun p => p.1 ≤ s.length ∧ p.2.1 ≤ p.1 ∧ p.2.2.1.length ≤ p.2.1 ∧ cutL c s = p.2.2.1 ++ cutL c (s.drop p.2.1) ∧ (∀ k, p.2.1 ≤ k → k < p.1 → s.getD k 0 ≠ c) ∧ p.2.2.2.1 < p.2.2.2.2) (fun p => s.length - p.1) (0, 0, [], 0, 1) ⟨by simp, by simp, by simp, rfl, fun k h1 h2 => by simp only at h2; omega, by simp⟩
    (Wk.ofX (by simp only [go_sem, ↓List.forall_mem_cons, List.not_mem_nil, false_implies, implies_true, and_true, true_and, and_self, ri_eq, Int.natCast_add, Int.cast_ofNat_Int]; try simp) (by simp [EntIn, hp, hmap, strs]) (by simp [hp])) ?_
  rintro ⟨i, f, P, ob, nb⟩ ⟨hi, hf, hPl, hc, hno, hob⟩
  simp only at hi hf hPl hc hno hob
  have hPs := zj P
  have hPt : (strs P).take P.length = strs P := List.take_of_length_le (by omega)
  refine SW_of_vc Tryz.mixed _ _ _ (by kernel_rfl) ?_
  by_cases hlt : i < s.length
  · by_cases he : s.getD i 0 = c
    · have hm : cutL c (s.drop f) = (s.drop f).take (i - f) :: cutL c (s.drop (i + 1)) := by
        have := cutL_first (c := c) (s := s.drop f) (m := i - f) (by rw [List.length_drop]; omega) (by rw [drop_getD hf]; exact he) (fun k hk => by
          have e := drop_getD (s := s) (f := f) (i := f + k) (by omega)
          rw [show f + k - f = k by omega] at e
          rw [e]; exact hno _ (by omega) (by omega))
        rw [this, List.drop_drop]
        congr 3; omega
      have hix := sb_ix hlt
      simp (disch := omega) only [go_sem, hix, he, beq_self_eq_true, hPs, hPt, strs_snoc]
      have hl1 : (P ++ [(s.drop f).take (i - f)]).length = P.length + 1 := by simp
      refine ⟨(i + 1, i + 1, P ++ [(s.drop f).take (i - f)], nb + 1, nb + 1 + 1), ⟨hlt, Nat.le_refl _, by simp only; omega, by rw [hc, hm]; simp, fun k h1 h2 => by simp only at h1 h2; omega, by simp only; omega⟩, by simp only; omega, ?_⟩
      refine Wk.ofX (by simp only [go_sem, ↓List.forall_mem_cons, List.not_mem_nil, false_implies, implies_true, and_true, true_and, and_self, ri_eq, Int.natCast_add, Int.cast_ofNat_Int, hl1]; try simp) ?_ (Nat.le_refl _)
      simp only [List.forall_mem_cons]
      refine ⟨?_, by simp⟩
      simp (disch := omega) only [EntIn, hx_map, zl, if_pos, if_neg, ↓reduceIte]
    · have he2 : (((s.getD i 0).toNat : Int) == (c.toNat : Int)) = false := by
        rw [beq_eq_false_iff_ne]
        intro e
        exact he (UInt8.toNat_inj.1 (by exact_mod_cast e))
      have hix := sb_ix hlt
      simp (disch := omega) only [go_sem, hix, he2]
      refine ⟨(i + 1, f, P, ob, nb), ⟨hlt, by simp only; omega, hPl, hc, fun k h1 h2 => ?_, hob⟩, by simp only; omega, Wk.of (by simp only [go_sem, ↓List.forall_mem_cons, List.not_mem_nil, false_implies, implies_true, and_true, true_and, and_self, ri_eq, Int.natCast_add, Int.cast_ofNat_Int]; try simp) rfl⟩
      simp only at h1 h2
      rcases Nat.lt_succ_iff_lt_or_eq.1 h2 with g | g
      · exact hno k h1 g
      · rw [g]; exact he
  · obtain rfl : i = s.length := by omega
    have t3 : (s.drop f).take (s.length - f) = s.drop f := List.take_of_length_le (by rw [List.length_drop]; exact Nat.le_refl _)
    have hlast : cutL c (s.drop f) = [s.drop f] := cutL_last fun k hk => by
      rw [List.length_drop] at hk
      have e := drop_getD (s := s) (f := f) (i := f + k) (by omega)
      rw [show f + k - f = k by omega] at e
      rw [e]; exact hno _ (by omega) (by omega)
    rw [hlast] at hc
    simp (disch := omega) only [go_sem, hPs, hPt, t3, strs_snoc]
    rw [hc]
    exact fin_strs (by simp) (by first | rfl | (simp (disch := omega) only [hx_map, hp_map, zl, zm, zk, xmap_nil, if_pos, if_neg, ↓reduceIte]; try rfl))
theorem Tryz.l2Cut_ok (s : List UInt8) (c : UInt8) (hs : s.length ≤ 1048576) : PCall Tryz.prog 117 [str s, .val (.int .u8 c.toNat)] (rst (cutL c s)) :=
  (Tryz.l2Cut_f s c hs).pcall 1 (fun _ _ h => flat_viewS h)
end Go.Sh

/-
  Regions that draw their order, further: operations that allocate, in more orders than one.
-/
namespace Go.Sh
open Go Go.RowKit
variable {P : Program}

theorem legS_uniq {ops : Array Oper} {S : Heap → Prop} {d : Bool} {o : Oper} {σ : Slots} {H : Heap} {Q Q' : SV → Heap → Prop} (hu : userCall o.op = none) (hS : S H) (h : legS P ops S d o σ H Q) (h' : legS P ops S d o σ H Q') : ∀ r H1, Q r H1 ↔ Q' r H1 := by
  cases d with
  | true =>
    simp only [legS, if_true] at h h'
    rcases h.2 with ⟨g, a, h1, h2⟩ | ⟨g, h2⟩
    · rcases h'.2 with ⟨g', b, k1, k2⟩ | ⟨g', _⟩
      · have := (h1 H hS).symm.trans (k1 H hS)
        have e : a = b := by simpa using this
        intro r H1; rw [h2, k2, e]
      · rw [g] at g'; simp at g'
    · rcases h'.2 with ⟨g', _⟩ | ⟨g', k2⟩
      · rw [g] at g'; simp at g'
      · intro r H1; rw [h2, k2]
  | false =>
    simp only [legS, Bool.false_eq_true, if_false, leg, hu] at h h'
    rcases h.2 with ⟨g, a, Ha, h1, h2⟩ | ⟨g, h2⟩
    · rcases h'.2 with ⟨g', b, Hb, k1, k2⟩ | ⟨g', _⟩
      · have := h1.symm.trans k1
        simp only [Option.some.injEq, Prod.mk.injEq] at this
        intro r H1; rw [h2, k2, this.1, this.2]
      · rw [g] at g'; simp at g'
    · rcases h'.2 with ⟨g', _⟩ | ⟨g', k2⟩
      · rw [g] at g'; simp at g'
      · intro r H1; rw [h2, k2]
theorem stepS_fam {n : Nat} {ops : Array Oper} {S : Heap → Prop} {d : Bool} {o : Oper} {s : St} {ι : Type} {F : ι → Prop} {A : ι → St → Prop} (hu : userCall o.op = none) (hS : S s.H) {l0 : ι} (h0 : F l0) (h : ∀ l, F l → stepS P n ops S d o s (A l)) :
    stepS P n ops S d o s (fun s' => ∀ l, F l → A l s') := by
  obtain ⟨hd, Q, hl, hk⟩ := h l0 h0
  refine ⟨hd, Q, hl, fun r H' hq => ⟨(hk r H' hq).1, fun l hf => ?_⟩⟩
  obtain ⟨_, Q', hl', hk'⟩ := h l hf
  exact (hk' r H' ((legS_uniq hu hS hl hl' r H').1 hq)).2

def pOk (D : List Nat) (ops : Array Oper) (k i : Nat) : Bool := match ops[k]?, ops[i]? with
  | some x, some y => waitsT ops 6 y k || pairOkS D ops k i x y
  | _, _ => false
structure Fam (D : List Nat) (ops : Array Oper) (hv : Nat → Bool) (Ls : List (List Nat)) : Prop where
  edge : ∀ (i : Nat) (y : Oper), ops[i]? = some y → ∀ e ∈ y.after, Region.binds .any e = true → e.on < i
  user : ∀ (i : Nat) (y : Oper), ops[i]? = some y → userCall y.op = none
  nd : ∀ l ∈ Ls, l.Nodup
  bd : ∀ l ∈ Ls, ∀ i ∈ l, i < ops.size
  all : ∀ l ∈ Ls, ∀ i, i < ops.size → i ∈ l
  pw : ∀ l ∈ Ls, l.Pairwise (fun k i => (hv k = true ∧ hv i = true) ∨ pOk D ops k i = true)
  ext : ∀ l ∈ Ls, ∀ m i, i < ops.size → hv i = true → i ∉ (l.filter hv).take m → (∃ k, k < ops.size ∧ hv k = true ∧ k ∉ (l.filter hv).take m ∧ ∃ y : Oper, ops[i]? = some y ∧ waitsT ops 6 y k = true) ∨ ∃ l' ∈ Ls, ((l.filter hv).take m ++ [i]) <+: l'.filter hv

def unl (listed : Array Bool) (i : Nat) : Bool := !listed.getD i true
theorem unl_set {listed : Array Bool} {i : Nat} (hi : i < listed.size) (a : Nat) : unl (listed.setIfInBounds i true) a = (unl listed a && decide (a ≠ i)) := by
  unfold unl
  by_cases h : a = i
  · subst h; simp [Array.getD_eq_getD_getElem?, hi]
  · rw [Array.getD_eq_getD_getElem?, Array.getElem?_setIfInBounds_ne (Ne.symm h), ← Array.getD_eq_getD_getElem?]; simp [h]
theorem filter_set {listed : Array Bool} {i : Nat} (hi : i < listed.size) {l l1 l2 : List Nat} (hnd : l.Nodup) (h : l.filter (unl listed) = l1 ++ i :: l2) : l.filter (unl (listed.setIfInBounds i true)) = l1 ++ l2 ∧ i ∉ l1 ∧ i ∉ l2 := by
  have hn : (l1 ++ i :: l2).Nodup := by rw [← h]; exact hnd.filter _
  rw [List.nodup_append] at hn
  obtain ⟨_, n2, n3⟩ := hn
  have i1 : i ∉ l1 := fun hm => n3 i hm i (by simp) rfl
  have i2 : i ∉ l2 := (List.nodup_cons.1 n2).1
  refine ⟨?_, i1, i2⟩
  have e : (fun a => unl (listed.setIfInBounds i true) a) = fun a => (unl listed a && decide (a ≠ i)) := funext fun a => unl_set hi a
  have : l.filter (unl (listed.setIfInBounds i true)) = (l.filter (unl listed)).filter (fun a => decide (a ≠ i)) := by
    rw [List.filter_filter]
    congr 1
    funext a; rw [unl_set hi, Bool.and_comm]
  rw [this, h, List.filter_append, List.filter_cons]
  simp only [ne_eq, not_true_eq_false, decide_false, Bool.false_eq_true, if_false]
  rw [List.filter_eq_self.2 (fun a ha => by simp; rintro rfl; exact i1 ha), List.filter_eq_self.2 (fun a ha => by simp; rintro rfl; exact i2 ha)]
theorem left_nil_filter {n : Nat} {listed : Array Bool} (hs : listed.size = n) (h : left n listed = []) (l : List Nat) : l.filter (unl listed) = [] := by
  rw [List.filter_eq_nil_iff]
  intro a _
  by_cases ha : a < n
  · have : a ∉ left n listed := by rw [h]; simp
    intro hu
    exact this (List.mem_filter.2 ⟨by simpa using ha, hu⟩)
  · simp [unl, Array.getD_eq_getD_getElem?, Array.getElem?_eq_none (by omega : listed.size ≤ a)]

theorem wpAny_of_fam {n : Nat} {ops : Array Oper} {S : Heap → Prop} {D : List Nat} {Q : Exit → Act → World → Prop} {K : St → Prop} {hv : Nat → Bool} {Ls : List (List Nat)} (hok : Fam D ops hv Ls) : ∀ (fuel : Nat) (listed : Array Bool) (p : List Nat) (s : St) (j : JMap) (a : Act) (w : World), listed.size = ops.size → ClosedL ops listed →
    (left ops.size listed).length ≤ fuel → S s.H → (∃ l ∈ Ls, p <+: l.filter hv) → (∀ i, i < ops.size → hv i = true → (listed.getD i true = true ↔ i ∈ p)) →
    (∀ l, l ∈ Ls ∧ p <+: l.filter hv → opsS P n ops S D (l.filter (unl listed)) s K) → SAll n j s a w → (∀ j' s' a' w', SAll n j' s' a' w' → Nx j s.H w j' s'.H w' → K s' → Q .normal a' w') → wpAny P .any ops Q fuel listed a w := by
  have ready_nil : ∀ listed : Array Bool, listed.size = ops.size → Region.ready .any ops listed = [] → left ops.size listed = [] := by
    intro listed hs hr
    cases hl : left ops.size listed with
    | nil => rfl
    | cons i rest =>
      exfalso
      have hmem : i ∈ left ops.size listed := by rw [hl]; simp
      have hi := List.mem_filter.1 hmem
      have hlt : i < ops.size := by simpa using hi.1
      have hsmall : ∀ k, k < i → listed.getD k true = true := by
        intro k hk
        cases hk' : listed.getD k true with
        | true => rfl
        | false =>
          exfalso
          have hkm : k ∈ left ops.size listed := List.mem_filter.2 ⟨by simp; omega, by simp [hk']⟩
          have hsorted : (left ops.size listed).Pairwise (· < ·) := (List.pairwise_lt_range).filter _
          rw [hl] at hsorted hkm
          rcases List.mem_cons.1 hkm with rfl | h
          · omega
          · have := (List.pairwise_cons.1 hsorted).1 k h
            omega
      have : i ∈ Region.ready .any ops listed := by
        refine List.mem_filter.2 ⟨by simpa using hlt, ?_⟩
        rw [Array.getElem?_eq_getElem hlt]
        simp only [Option.map_some, Option.getD_some, Bool.and_eq_true]
        refine ⟨hi.2, Array.all_eq_true.2 (fun m hm => ?_)⟩
        cases hb : Region.binds .any (ops[i]).after[m] with
        | false => simp
        | true =>
          have h1 := hok.edge i ops[i] (Array.getElem?_eq_getElem hlt) _ (Array.getElem_mem hm) hb
          have h2 := hsmall _ h1
          have h3 : listed.getD ((ops[i]).after[m]).on false = true := by
            rw [Array.getD_eq_getD_getElem?, Array.getElem?_eq_getElem (by omega)] at h2 ⊢
            simpa using h2
          simp [h3]
      rw [hr] at this
      simp at this
  intro fuel
  induction fuel with
  | zero =>
    intro listed p s j a w hs hcl hf hS hne hp hrun ha hq
    have hl : left ops.size listed = [] := by simpa using hf
    obtain ⟨l, hlm, hlp⟩ := hne
    have hrun := hrun l ⟨hlm, hlp⟩
    rw [left_nil_filter hs hl] at hrun
    simp only [opsS] at hrun
    refine ⟨?_, hq j s a w ha (Nx.refl _ _ _) hrun⟩
    cases hr : Region.ready .any ops listed with
    | nil => rfl
    | cons i rest =>
      exfalso
      have hm : i ∈ Region.ready .any ops listed := by rw [hr]; simp
      have hm := List.mem_filter.1 hm
      simp only [Bool.and_eq_true] at hm
      have : i ∈ left ops.size listed := List.mem_filter.2 ⟨hm.1, hm.2.1⟩
      rw [hl] at this; simp at this
  | succ fuel ih =>
    intro listed p s j a w hs hcl hf hS hne hp hrun ha hq
    refine ⟨fun hr => ?_, fun i hi => ?_⟩
    · obtain ⟨l, hlm, hlp⟩ := hne
      have hrun := hrun l ⟨hlm, hlp⟩
      rw [left_nil_filter hs (ready_nil listed hs hr)] at hrun
      simp only [opsS] at hrun
      exact hq j s a w ha (Nx.refl _ _ _) hrun
    · have hm := List.mem_filter.1 hi
      simp only [Bool.and_eq_true] at hm
      have hlt : i < ops.size := by simpa using hm.1
      have hno : listed.getD i true = false := by simpa using hm.2.1
      have hy : ops[i]? = some ops[i] := Array.getElem?_eq_getElem hlt
      have hu := hok.user i _ hy
      have hdir : ∀ e ∈ (ops[i]).after, Region.binds .any e = true → listed.getD e.on false = true := by
        intro e he hb
        have hall := hm.2.2
        rw [hy] at hall
        simp only [Option.map_some, Option.getD_some] at hall
        obtain ⟨m, hm', rfl⟩ := Array.mem_iff_getElem.1 he
        have := Array.all_eq_true.1 hall m hm'
        rw [hb] at this
        simpa only [Bool.not_true, Bool.false_or] using this
      have hset : ∀ m, listed.getD m false = true → (listed.setIfInBounds i true).getD m false = true := by
        intro m h
        by_cases hmi : m = i
        · subst hmi
          simp [Array.getD_eq_getD_getElem?, hs, hlt]
        · rw [Array.getD_eq_getD_getElem?] at h ⊢
          rw [Array.getElem?_setIfInBounds_ne (Ne.symm hmi)]
          exact h
      have hcl' : ClosedL ops (listed.setIfInBounds i true) := by
        intro m y hmy hlm e he hb
        by_cases hmi : m = i
        · subst hmi
          rw [hy] at hmy
          simp at hmy
          subst hmy
          exact hset _ (hdir e he hb)
        · refine hset _ (hcl m y hmy ?_ e he hb)
          rw [Array.getD_eq_getD_getElem?] at hlm ⊢
          rwa [Array.getElem?_setIfInBounds_ne (Ne.symm hmi)] at hlm
      have hwait : ∀ k, k < ops.size → unl listed k = true → waitsT ops 6 ops[i] k = true → False := fun k hk hul hw => by
        have := waitsT_listed hcl 6 _ hdir hw
        simp only [unl, Bool.not_eq_true'] at hul
        rw [Array.getD_eq_getD_getElem?, Array.getElem?_eq_getElem (by omega)] at this hul
        simp at this hul
        rw [this] at hul; simp at hul
      have hsz : i < listed.size := by omega
      -- the lists that go on
      obtain ⟨p', hp', hne', hmov⟩ : ∃ p', (∀ k, k < ops.size → hv k = true → ((listed.setIfInBounds i true).getD k true = true ↔ k ∈ p')) ∧ (∃ l ∈ Ls, p' <+: l.filter hv) ∧
          ∀ l, l ∈ Ls ∧ p' <+: l.filter hv → (p <+: l.filter hv) ∧ ∀ l1 l2, l.filter (unl listed) = l1 ++ i :: l2 → hv i = true → ∀ k ∈ l1, hv k = false := by
        have hlk : ∀ k, (listed.setIfInBounds i true).getD k true = true ↔ (listed.getD k true = true ∨ k = i) := fun k => by
          have := unl_set hsz k
          simp only [unl] at this
          by_cases e : k = i
          · subst e; simp at this; simp [this]
          · simp only [e, ne_eq, not_false_eq_true, decide_true, Bool.and_true, Bool.not_inj_iff] at this
            rw [this]; simp [e]
        by_cases hvi : hv i = true
        · have hip : i ∉ p := fun h => by
            have := (hp i hlt hvi).2 h
            rw [hno] at this; cases this
          obtain ⟨l, hlm, hlp⟩ := hne
          have hpt : (l.filter hv).take p.length = p := (List.prefix_iff_eq_take.1 hlp).symm
          have hx := hok.ext l hlm p.length i hlt hvi (by rw [hpt]; exact hip)
          rw [hpt] at hx
          rcases hx with ⟨k, hk1, hk2, hk3, y, hy', hk4⟩ | ⟨l', hl', hpre⟩
          · exfalso
            rw [hy] at hy'
            simp at hy'; subst hy'
            refine hwait k hk1 ?_ hk4
            have : ¬ listed.getD k true = true := fun h => hk3 ((hp k hk1 hk2).1 h)
            simp only [unl]; simpa using this
          · refine ⟨p ++ [i], fun k hk hvk => ?_, ⟨l', hl', hpre⟩, fun l ⟨hl, hpl⟩ => ⟨(List.prefix_append p [i]).trans hpl, fun l1 l2 he _ k hk => ?_⟩⟩
            · rw [hlk, List.mem_append, List.mem_singleton, hp k hk hvk]
            · cases hvk : hv k with
              | false => rfl
              | true =>
                exfalso
                obtain ⟨q, hq'⟩ := hpl
                have e1 : (l.filter (unl listed)).filter hv = (l.filter hv).filter (unl listed) := by
                  rw [List.filter_filter, List.filter_filter]; congr 1; funext a; rw [Bool.and_comm]
                obtain ⟨_, i1, i2⟩ := filter_set hsz (hok.nd l hl) he
                have hpn : p.filter (unl listed) = [] := by
                  rw [List.filter_eq_nil_iff]
                  intro b hb
                  have hbl : b ∈ l.filter hv := by rw [← hq']; simp [hb]
                  by_cases hbs : b < ops.size
                  · have := (hp b hbs (List.mem_filter.1 hbl).2).2 hb
                    simp only [unl]; rw [this]; simp
                  · simp [unl, Array.getD_eq_getD_getElem?, Array.getElem?_eq_none (by omega : listed.size ≤ b)]
                have hui : unl listed i = true := by simp [unl, hno]
                rw [he, ← hq', List.filter_append, List.filter_append, List.filter_append, hpn, List.filter_cons, List.filter_cons, if_pos hvi, if_pos hui] at e1
                simp only [List.filter_nil, List.nil_append, List.cons_append] at e1
                have hkl : k ∈ l1.filter hv := List.mem_filter.2 ⟨hk, hvk⟩
                cases hc : l1.filter hv with
                | nil => rw [hc] at hkl; simp at hkl
                | cons b bs =>
                  rw [hc] at e1
                  simp only [List.cons_append, List.cons.injEq] at e1
                  have : b ∈ l1.filter hv := by rw [hc]; simp
                  rw [e1.1] at this
                  exact i1 (List.mem_filter.1 this).1
        · refine ⟨p, fun k hk hvk => ?_, hne, fun l ⟨hl, hpl⟩ => ⟨hpl, fun l1 l2 he h => absurd h hvi⟩⟩
          rw [hlk, ← hp k hk hvk]
          constructor
          · rintro (h | rfl)
            · exact h
            · exact absurd hvk hvi
          · exact .inl
      have hstep : ∀ l, l ∈ Ls ∧ p' <+: l.filter hv → stepS P n ops S (hasD D i) ops[i] s (fun s' => opsS P n ops S D (l.filter (unl (listed.setIfInBounds i true))) s' K) := by
        intro l hl
        obtain ⟨hpl, hm2⟩ := hmov l hl
        have hr := hrun l ⟨hl.1, hpl⟩
        have him : i ∈ l.filter (unl listed) := List.mem_filter.2 ⟨hok.all l hl.1 i hlt, by simp [unl, hno]⟩
        obtain ⟨l1, l2, he⟩ := List.append_of_mem him
        obtain ⟨e2, i1, i2⟩ := filter_set hsz (hok.nd l hl.1) he
        have hpw : (l1 ++ i :: l2).Pairwise (fun k i => (hv k = true ∧ hv i = true) ∨ pOk D ops k i = true) := by rw [← he]; exact (hok.pw l hl.1).filter _
        rw [he] at hr
        have hfront := opsS_front hy l1 l2 s hS (fun k hk x hx => by
          have h1 := (List.pairwise_append.1 hpw).2.2 k hk i (by simp)
          have hku : unl listed k = true := by
            have : k ∈ l.filter (unl listed) := by rw [he]; simp [hk]
            exact (List.mem_filter.1 this).2
          have hks : k < ops.size := by
            rcases Nat.lt_or_ge k ops.size with h | h
            · exact h
            · rw [Array.getElem?_eq_none h] at hx; simp at hx
          rcases h1 with ⟨h1, h2⟩ | h1
          · have := hm2 l1 l2 he h2 k hk
            rw [h1] at this; cases this
          · unfold pOk at h1
            rw [hx, hy] at h1
            simp only [Bool.or_eq_true] at h1
            rcases h1 with h1 | h1
            · exact (hwait k hks hku h1).elim
            · exact h1) hr
        simp only [opsS] at hfront
        obtain ⟨y, hy', hst⟩ := hfront
        rw [hy] at hy'
        simp at hy'; subst hy'
        rw [e2]
        exact hst
      obtain ⟨l0, hl0, hl0p⟩ := hne'
      have hall := stepS_fam (F := fun l => l ∈ Ls ∧ p' <+: l.filter hv) (A := fun l s' => opsS P n ops S D (l.filter (unl (listed.setIfInBounds i true))) s' K) hu hS (l0 := l0) ⟨hl0, hl0p⟩ hstep
      refine stepS_real hS hy hall ha (fun j' s1 a' w' h1 h2 hS1 hrest => ?_)
      refine ih (listed.setIfInBounds i true) p' s1 j' a' w' (by simpa using hs) hcl' ?_ hS1 ⟨l0, hl0, hl0p⟩ hp' hrest h1 (fun j'' s'' a'' w'' g1 g2 g3 => hq j'' s'' a'' w'' g1 (h2.trans g2) g3)
      obtain ⟨l1, l2, e1, e2, e3⟩ := left_split hs hlt hno
      rw [e2]
      rw [e1] at hf
      simp at hf ⊢
      omega

def pwB (R : Nat → Nat → Bool) : List Nat → Bool
  | [] => true
  | k :: l => l.all (R k) && pwB R l
theorem pwB_of {R : Nat → Nat → Bool} : ∀ {l : List Nat}, pwB R l = true → l.Pairwise (fun a b => R a b = true)
  | [], _ => .nil
  | k :: l, h => by
    simp only [pwB, Bool.and_eq_true, List.all_eq_true] at h
    exact .cons h.1 (pwB_of h.2)
def wt (ops : Array Oper) (i k : Nat) : Bool := match ops[i]? with | some y => waitsT ops 6 y k | none => false
def famOk (D : List Nat) (ops : Array Oper) (hv : List Nat) (Ls : List (List Nat)) : Bool :=
  (List.range ops.size).all (fun i => match ops[i]? with | some y => (y.after.all fun e => !Region.binds .any e || decide (e.on < i)) && (userCall y.op).isNone | none => true) &&
  Ls.all (fun l => pwB (fun a b => decide (a ≠ b)) l && l.all (fun i => decide (i < ops.size)) && (List.range ops.size).all (fun i => l.contains i) && pwB (fun k i => (hv.contains k && hv.contains i) || pOk D ops k i) l) &&
  Ls.all (fun l => (List.range ((l.filter hv.contains).length + 1)).all fun m => hv.all fun i => ((l.filter hv.contains).take m).contains i || hv.any (fun k => decide (k < ops.size) && (!((l.filter hv.contains).take m).contains k && wt ops i k)) || Ls.any fun l' => (((l.filter hv.contains).take m) ++ [i]).isPrefixOf (l'.filter hv.contains))
theorem fam_of {D : List Nat} {ops : Array Oper} {hv : List Nat} {Ls : List (List Nat)} (h : famOk D ops hv Ls = true) : Fam D ops hv.contains Ls := by
  simp only [famOk, Bool.and_eq_true] at h
  obtain ⟨⟨h1, h2⟩, h3⟩ := h
  have one : ∀ (i : Nat) (y : Oper), ops[i]? = some y → (∀ e ∈ y.after, Region.binds .any e = true → e.on < i) ∧ userCall y.op = none := by
    intro i y hy
    have hi : i < ops.size := by
      rcases Nat.lt_or_ge i ops.size with h | h
      · exact h
      · rw [Array.getElem?_eq_none h] at hy; simp at hy
    have := List.all_eq_true.1 h1 i (by simpa using hi)
    rw [hy] at this
    simp only [Bool.and_eq_true] at this
    refine ⟨fun e he hb => ?_, by simpa using this.2⟩
    have h1 := Array.all_eq_true.1 this.1
    obtain ⟨m, hm, rfl⟩ := Array.mem_iff_getElem.1 he
    have := h1 m hm
    simpa [hb] using this
  have two : ∀ l ∈ Ls, _ := List.all_eq_true.1 h2
  refine ⟨fun i y hy => (one i y hy).1, fun i y hy => (one i y hy).2, fun l hl => ?_, fun l hl i hi => ?_, fun l hl i hi => ?_, fun l hl => ?_, fun l hl m i hi hvi hnot => ?_⟩
  · have := two l hl
    simp only [Bool.and_eq_true] at this
    exact (pwB_of this.1.1.1).imp (fun h => by simpa using h)
  · have := two l hl
    simp only [Bool.and_eq_true] at this
    have := List.all_eq_true.1 this.1.1.2 i hi
    simpa using this
  · have := two l hl
    simp only [Bool.and_eq_true] at this
    have := List.all_eq_true.1 this.1.2 i (by simpa using hi)
    simpa using this
  · have := two l hl
    simp only [Bool.and_eq_true] at this
    exact (pwB_of this.2).imp (fun h => by simpa only [Bool.or_eq_true, Bool.and_eq_true] using h)
  · have key : ∃ m', (l.filter hv.contains).take m = (l.filter hv.contains).take m' ∧ m' < (l.filter hv.contains).length + 1 := by
      rcases Nat.lt_or_ge m ((l.filter hv.contains).length + 1) with h | h
      · exact ⟨m, rfl, h⟩
      · exact ⟨(l.filter hv.contains).length, by rw [List.take_of_length_le (by omega), List.take_length], by omega⟩
    obtain ⟨m', e, hm'⟩ := key
    rw [e] at hnot ⊢
    have := List.all_eq_true.1 h3 l hl
    have := List.all_eq_true.1 this m' (by simpa using hm')
    have := List.all_eq_true.1 this i (by simpa using hvi)
    simp only [Bool.or_eq_true] at this
    rcases this with (this | this) | this
    · exact absurd (by simpa using this) hnot
    · obtain ⟨k, hk, hk2⟩ := List.any_eq_true.1 this
      simp only [Bool.and_eq_true, decide_eq_true_eq, Bool.not_eq_true'] at hk2
      obtain ⟨k1, k2, k3⟩ := hk2
      refine .inl ⟨k, k1, by simpa using hk, fun hm => ?_, ?_⟩
      · rw [List.contains_iff_mem.2 hm] at k2; cases k2
      · unfold wt at k3
        split at k3
        · exact ⟨_, by assumption, k3⟩
        · cases k3
    · obtain ⟨l', hl', hp⟩ := List.any_eq_true.1 this
      exact .inr ⟨l', hl', List.isPrefixOf_iff_prefix.1 hp⟩

def atN : List Oper → Nat → (Oper → Prop) → Prop
  | [], _, _ => False
  | o :: _, 0, f => f o
  | _ :: l, k + 1, f => atN l k f
theorem atN_zero (o : Oper) (l : List Oper) (f : Oper → Prop) : atN (o :: l) 0 f = f o := rfl
theorem atN_succ (o : Oper) (l : List Oper) (k : Nat) (f : Oper → Prop) : atN (o :: l) (k + 1) f = atN l k f := rfl
theorem atN_of : ∀ {l : List Oper} {k : Nat} {f : Oper → Prop}, atN l k f → ∃ o, l[k]? = some o ∧ f o
  | [], _, _, h => h.elim
  | o :: _, 0, _, h => ⟨o, rfl, h⟩
  | _ :: l, k + 1, _, h => by
    obtain ⟨o, h1, h2⟩ := atN_of (l := l) h
    exact ⟨o, by simpa using h1, h2⟩
def opsL (P : Program) (n : Nat) (l : List Oper) (S : Heap → Prop) (D : List Nat) : List Nat → St → (St → Prop) → Prop
  | [], s, K => K s
  | i :: is, s, K => atN l i (fun o => opsNS P n l.toArray S D i [o] s (fun s' => opsL P n l S D is s' K))
theorem opsL_nil (n : Nat) (l : List Oper) (S : Heap → Prop) (D : List Nat) (s : St) (K : St → Prop) : opsL P n l S D [] s K = K s := rfl
theorem opsL_cons (n : Nat) (l : List Oper) (S : Heap → Prop) (D : List Nat) (i : Nat) (is : List Nat) (s : St) (K : St → Prop) : opsL P n l S D (i :: is) s K = atN l i (fun o => opsNS P n l.toArray S D i [o] s (fun s' => opsL P n l S D is s' K)) := rfl
theorem opsNS_one {n : Nat} {ops : Array Oper} {S : Heap → Prop} {D : List Nat} {K : St → Prop} {o : Oper} {i : Nat} {s : St} (hS : S s.H) (h : opsNS P n ops S D i [o] s K) : stepS P n ops S (hasD D i) o s K := by
  simp only [opsNS] at h
  split at h
  · rename_i hg
    split at h
    · rename_i hd
      split at h
      · rename_i t x hop
        obtain ⟨hdk, r, h1, h2⟩ := h
        rw [hd]
        refine ⟨hdk, fun r1 H1 => r1 = r ∧ H1 = s.H, ?_, ?_⟩
        · simp only [legS, if_true]
          refine ⟨⟨r, s.H, rfl, rfl⟩, .inl ⟨by simp [gst, hg], r, fun H2 h3 => ?_, fun _ _ => Iff.rfl⟩⟩
          have h4 : sload P H2 t (sval s.σ x) = some r := h1 H2 h3
          rw [hop]
          simp only [sop, h4]
        · rintro _ _ ⟨rfl, rfl⟩
          exact ⟨hS, h2⟩
      · rename_i t x lo hi mx hop
        obtain ⟨hdk, r, h1, h2⟩ := h
        rw [hd]
        refine ⟨hdk, fun r1 H1 => r1 = r ∧ H1 = s.H, ?_, ?_⟩
        · simp only [legS, if_true]
          refine ⟨⟨r, s.H, rfl, rfl⟩, .inl ⟨by simp [gst, hg], r, fun H2 h3 => ?_, fun _ _ => Iff.rfl⟩⟩
          have h4 : sslice P H2 t (globO x (sval s.σ x)) (lo.map (sval s.σ)) (hi.map (sval s.σ)) (mx.map (sval s.σ)) = some r := h1 H2 h3
          rw [hop]
          simp only [sop, h4]
        · rintro _ _ ⟨rfl, rfl⟩
          exact ⟨hS, h2⟩
      · exact h.elim
    · rename_i hd
      have hd : hasD D i = false := by simpa using hd
      rw [hd]
      split at h
      · exact stepN_S (stepN_mono (opN_leg (by simp [gst, hg]) h) fun s' g => ⟨g.1, g.2⟩)
      · rename_i hh
        have hh : heavy o.op = false := by simpa using hh
        refine stepN_S (stepN_mono (stepN_keep hh (opN_leg (by simp [gst, hg]) h)) fun s' g => ?_)
        have hS' : S s'.H := by rw [g.1]; exact hS
        exact ⟨hS', g.2⟩
  · exact h.elim
theorem opsS_of_opsL {n : Nat} {l : List Oper} {S : Heap → Prop} {D : List Nat} {K : St → Prop} : ∀ (is : List Nat) (s : St), S s.H → opsL P n l S D is s K → opsS P n l.toArray S D is s K
  | [], s, _, h => h
  | i :: is, s, hS, h => by
    rw [opsL_cons] at h
    obtain ⟨o, h1, h2⟩ := atN_of h
    exact ⟨o, by simpa using h1, stepS_mono (opsNS_one hS h2) fun s' hS' g => opsS_of_opsL is s' hS' g⟩
def opsLs (P : Program) (n : Nat) (l : List Oper) (S : Heap → Prop) (D : List Nat) : List (List Nat) → St → (St → Prop) → Prop
  | [], _, _ => True
  | is :: Ls, s, K => opsL P n l S D is s K ∧ opsLs P n l S D Ls s K
theorem opsLs_mem {n : Nat} {l : List Oper} {S : Heap → Prop} {D : List Nat} {s : St} {K : St → Prop} : ∀ {Ls : List (List Nat)}, opsLs P n l S D Ls s K → ∀ is ∈ Ls, opsL P n l S D is s K
  | [], _, is, h => by simp at h
  | is0 :: Ls, h, is, hm => by
    rcases List.mem_cons.1 hm with rfl | hm
    · exact h.1
    · exact opsLs_mem h.2 is hm
theorem SW.regionP {n : Nat} {id : Nat} {l : List Oper} {Q : Exit → St → Prop} {s : St} (S : Heap → Prop) (D hv : List Nat) (l0 : List Nat) (Ls : List (List Nat)) (hm : P.follows .mixedOrders = true) (hok : famOk D l.toArray hv (l0 :: Ls) = true) (hS : S s.H) (h : opsLs P n l S D (l0 :: Ls) s (Q .normal)) : SW P n (.region id l.toArray true) Q s := by
  intro j a w ha
  have hd : SAll n j s a w.drew := ⟨ha.rel.drew, ha.slots.nx ha.rel (Nx.drew j s.H w), ha.size, ha.defers⟩
  refine wp_region_any hm ?_
  have hleft : left l.toArray.size (Array.replicate l.toArray.size false) = List.range' 0 l.length := by
    unfold left
    rw [← List.range_eq_range']
    simp only [List.size_toArray]
    apply List.filter_eq_self.2
    intro k hk
    simp at hk
    simp [Array.getD_eq_getD_getElem?, hk]
  have hfam := fam_of hok
  refine wpAny_of_fam (K := Q .normal) hfam l.toArray.size _ [] s j a w.drew (by simp) (fun m y _ h => by simp [Array.getD_eq_getD_getElem?, Array.getElem?_replicate] at h; split at h <;> simp at h) (by rw [hleft]; simp) hS ⟨l0, by simp, List.nil_prefix⟩ ?_ ?_ hd (fun j' s' a' w' h1 h2 h3 => ⟨j', s', h1, (Nx.drew j s.H w).trans h2, h3⟩)
  · intro i hi _
    simp at hi
    simp [Array.getD_eq_getD_getElem?, hi]
  · rintro is ⟨hm, _⟩
    have hr := opsS_of_opsL (P := P) is s hS (opsLs_mem h is hm)
    have e : is.filter (unl (Array.replicate l.toArray.size false)) = is := List.filter_eq_self.2 fun k hk => by
      have := hfam.bd is hm k hk
      simp at this
      simp [unl, Array.getD_eq_getD_getElem?, this]
    rw [e]; exact hr
theorem SliceS.own {t : TypeId} {b off m cap sz : Nat} {ex : Bool} {lo hi mx : Option SV} {S : Heap → Prop} {k : SV → Prop} (h : @bindV (sslice P (hp [] 0) t (.own b off m cap sz ex) lo hi mx) ⟨k⟩) : @SliceS P t (.own b off m cap sz ex) lo hi mx ⟨S, k⟩ := by
  cases hs : sslice P (hp [] 0) t (.own b off m cap sz ex) lo hi mx with
  | none => rw [hs] at h; exact h.elim
  | some r => rw [hs] at h; exact ⟨r, fun H2 _ => by rw [← hs]; rfl, h⟩
attribute [go_sem ↓] opsL_nil opsL_cons atN_zero atN_succ
end Go.Sh

/-
  Sets of words: the reference.
-/

namespace Go.Sh
open Go Go.Proofs

theorem blt_eq : ∀ (x y : List UInt8), Op.bytesLess x y = decide (x < y)
  | [], [] => by simp [Op.bytesLess]
  | _ :: _, [] => by simp [Op.bytesLess]
  | [], _ :: _ => by simp [Op.bytesLess]
  | a :: x, b :: y => by
    rw [Op.bytesLess, blt_eq x y]
    simp only [List.cons_lt_cons_iff]
    by_cases h1 : a < b <;> by_cases h2 : a = b <;> by_cases h3 : x < y <;> simp [h1, h2, h3]
@[go_sem] theorem sstr_lss (a b : List UInt8) : sstr .lss (sb a) (sb b) = some (.val (.bool (decide (a < b)))) := by simp only [sstr, sb_toList, blt_eq]
@[go_sem] theorem sstr_geq (a b : List UInt8) : sstr .geq (sb a) (sb b) = some (.val (.bool (!decide (a < b)))) := by simp only [sstr, sb_toList, blt_eq]
theorem tput_at : ∀ {L : List Wd} {s : Wd} {k : Nat}, k ≤ L.length → (∀ i, i < k → L.getD i [] < s) → (k < L.length → ¬ L.getD k [] < s) → tput L s = if k < L.length ∧ L.getD k [] = s then L else L.take k ++ s :: L.drop k
  | [], s, k, hk, _, _ => by
    have : k = 0 := by simpa using hk
    subst this
    simp [tput]
  | x :: L, s, 0, _, _, h2 => by
    have h2 := h2 (by simp)
    simp only [List.getD_cons_zero] at h2
    rw [tput, if_neg h2]
    by_cases he : x = s
    · rw [if_pos he, if_pos ⟨by simp, by simpa using he⟩]
    · rw [if_neg he, if_neg (by simpa using he)]; rfl
  | x :: L, s, k + 1, hk, h1, h2 => by
    have hx := h1 0 (by omega)
    simp only [List.getD_cons_zero] at hx
    have ih := tput_at (L := L) (s := s) (k := k) (by simpa using hk) (fun i hi => by simpa using h1 (i + 1) (by omega)) (fun h => by simpa using h2 (by simpa using h))
    rw [tput, if_pos hx, ih]
    simp only [List.length_cons, Nat.add_lt_add_iff_right, List.getD_cons_succ]
    split <;> simp
def PutQ (H : Heap) (R : List Wd) (r : SV) (H' : Heap) : Prop := ∃ b cap ex e, r = .own b 0 R.length cap 1 ex ∧ R.length ≤ cap ∧ H'.map b = some ⟨strs R, e⟩ ∧ b < H'.nb ∧ H.nb ≤ H'.nb ∧ ∀ x, x < H.nb → H'.map x = H.map x
set_option maxRecDepth 20000 in
set_option maxHeartbeats 16000000 in
theorem Tryz.l3Put_ok (H : Heap) (b cap : Nat) (ex e : Bool) (L : List Wd) (s : Wd) (hL : L.length ≤ 1048576) (hb : H.map b = some ⟨strs L, e⟩) (hbn : b < H.nb) (hcap : L.length ≤ cap) :
    CallS Tryz.prog 118 [.own b 0 L.length cap 1 ex, str s, .val (.bool false)] H (PutQ H (tput L s)) := by
  have lC := zj L
  refine CallS.of_body Tryz.func118 rfl (by kernel_rfl) (by simp [Tryz.ntmps118]) ?_
  refine SW.seqW ⟨ofL [(0, .own b 0 L.length cap 1 ex), (1, str s), (2, .val (.bool false))], H⟩ ?_ ?_
  · refine SW_of_vc Tryz.mixed _ _ _ (by kernel_rfl) ?_
    simp (disch := omega) only [go_sem]
    exact Wk.of (by simp only [go_sem, ↓List.forall_mem_cons, List.not_mem_nil, false_implies, implies_true, and_true, true_and, and_self, ri_eq, Int.natCast_add, Int.cast_ofNat_Int]; try simp) rfl
  refine SW.seqW ⟨ofL [(0, .own b 0 L.length cap 1 ex), (1, str s), (2, .val (.bool false)), (7, .val (.int .i64 0))], H⟩ ?_ ?_
  · refine SW_of_vc Tryz.mixed _ _ _ (by kernel_rfl) ?_
    simp (disch := omega) only [go_sem]
    exact Wk.of (by simp only [go_sem, ↓List.forall_mem_cons, List.not_mem_nil, false_implies, implies_true, and_true, true_and, and_self, ri_eq, Int.natCast_add, Int.cast_ofNat_Int]; try simp) rfl
  refine SW.seqI (fun k : Nat => ⟨ofL [(0, .own b 0 L.length cap 1 ex), (1, str s), (2, .val (.bool false)), (7, .val (.int .i64 k))], H⟩) (fun k => k ≤ L.length ∧ (∀ i, i < k → L.getD i [] < s) ∧ (k < L.length → ¬ L.getD k [] < s)) ?_ ?_
  · refine SW_of_vc Tryz.mixed _ _ _ (by kernel_rfl) ?_
    simp (disch := omega) only [go_sem]
    refine LoopW.loop (fun k : Nat => ⟨ofL [(0, .own b 0 L.length cap 1 ex), (1, str s), (2, .val (.bool false)), (7, .val (.int .i64 k))], H⟩) (fun k => k ≤ L.length ∧ (∀ i, i < k → L.getD i [] < s)) (fun k => L.length - k) 0 ⟨by omega, by simp⟩ (Wk.of (by simp only [go_sem, ↓List.forall_mem_cons, List.not_mem_nil, false_implies, implies_true, and_true, true_and, and_self, ri_eq, Int.natCast_add, Int.cast_ofNat_Int]; try simp) rfl) ?_
    rintro k ⟨hk, hk2⟩
    refine SW_of_vc Tryz.mixed _ _ _ (by kernel_rfl) ?_
    by_cases hlt : k < L.length
    · have hg := zn hlt
      by_cases hs : L.getD k [] < s
      · have hd := decide_eq_true hs
        simp (disch := omega) only [go_sem, hb, hg, lC, hd]
        refine ⟨k + 1, ⟨hlt, fun i hi => ?_⟩, by omega, Wk.of (by simp only [go_sem, ↓List.forall_mem_cons, List.not_mem_nil, false_implies, implies_true, and_true, true_and, and_self, ri_eq, Int.natCast_add, Int.cast_ofNat_Int]; try simp) rfl⟩
        rcases Nat.lt_succ_iff_lt_or_eq.1 hi with g | rfl
        · exact hk2 i g
        · exact hs
      · have hd := decide_eq_false hs
        simp (disch := omega) only [go_sem, hb, hg, lC, hd]
        exact ⟨k, ⟨hk, hk2, fun _ => hs⟩, Wk.of (by simp only [go_sem, ↓List.forall_mem_cons, List.not_mem_nil, false_implies, implies_true, and_true, true_and, and_self, ri_eq, Int.natCast_add, Int.cast_ofNat_Int]; try simp) rfl⟩
    · simp (disch := omega) only [go_sem]
      exact ⟨k, ⟨hk, hk2, fun h => absurd h hlt⟩, Wk.of (by simp only [go_sem, ↓List.forall_mem_cons, List.not_mem_nil, false_implies, implies_true, and_true, true_and, and_self, ri_eq, Int.natCast_add, Int.cast_ofNat_Int]; try simp) rfl⟩
  rintro k ⟨hk, hk1, hk2⟩
  have ht := tput_at hk hk1 hk2
  refine SW.seqI (fun _ : Unit => ⟨ofL [(0, .own b 0 L.length cap 1 ex), (1, str s), (2, .val (.bool false)), (7, .val (.int .i64 k))], H⟩) (fun _ => ¬ (k < L.length ∧ L.getD k [] = s)) ?_ ?_
  · refine SW_of_vc Tryz.mixed _ _ _ (by kernel_rfl) ?_
    by_cases hlt : k < L.length
    · have hg := zn hlt
      by_cases he : L.getD k [] = s
      · rw [if_pos ⟨hlt, he⟩] at ht
        have e1 : (L.getD k [] == s) = true := by rw [he]; exact beq_self_eq_true s
        simp (disch := omega) only [go_sem, hb, hg, lC, e1]
        rw [ht]
        exact ⟨b, cap, ex, e, rfl, hcap, hb, hbn, Nat.le_refl _, fun _ _ => rfl⟩
      · have e1 : (L.getD k [] == s) = false := beq_eq_false_iff_ne.2 he
        simp (disch := omega) only [go_sem, hb, hg, lC, e1]
        exact ⟨(), fun g => he g.2, Wk.of (by simp only [go_sem, ↓List.forall_mem_cons, List.not_mem_nil, false_implies, implies_true, and_true, true_and, and_self, ri_eq, Int.natCast_add, Int.cast_ofNat_Int]; try simp) rfl⟩
    · simp (disch := omega) only [go_sem]
      exact ⟨(), fun g => hlt g.1, Wk.of (by simp only [go_sem, ↓List.forall_mem_cons, List.not_mem_nil, false_implies, implies_true, and_true, true_and, and_self, ri_eq, Int.natCast_add, Int.cast_ofNat_Int]; try simp) rfl⟩
  rintro _ hno
  rw [if_neg hno] at ht
  have hf1 : (List.take k (strs L)).all flat = true := List.all_eq_true.2 fun x hx => by obtain ⟨y, _, rfl⟩ := List.mem_map.1 (List.mem_of_mem_take hx); rfl
  have hf2 : (List.drop k (strs L)).all flat = true := List.all_eq_true.2 fun x hx => by obtain ⟨y, _, rfl⟩ := List.mem_map.1 (List.mem_of_mem_drop hx); rfl
  have e1 : strs (tput L s) = List.take k (strs L) ++ .val (.string (sb s)) :: List.drop k (strs L) := by rw [ht]; simp [strs, List.map_take, List.map_drop]
  have el : (tput L s).length = L.length + 1 := by rw [ht]; simp; omega
  clear ht hk1 hk2
  generalize tput L s = T at *
  have hil := lC
  have lt : (List.take k (strs L)).length = k := by simp [hil]; omega
  have tk0 : List.take k (List.take k (strs L)) = List.take k (strs L) := by rw [List.take_take, Nat.min_self]
  have dt : List.take (L.length - k) (List.drop k (strs L)) = List.drop k (strs L) := List.take_of_length_le (by rw [List.length_drop, hil]; omega)
  have lt1 : (List.take k (strs L) ++ [SV.val (Value.string (sb s))]).length = k + 1 := by rw [List.length_append, lt]; rfl
  have tk1 : List.take (k + 1) (List.take k (strs L) ++ [SV.val (Value.string (sb s))]) = List.take k (strs L) ++ [SV.val (Value.string (sb s))] := List.take_of_length_le (by omega)
  have rz : ∀ zs : List SV, rep zs 0 = [] := fun _ => rfl
  generalize strs L = A at *
  generalize hA' : strs T = A' at *
  refine SW.seqI (fun y : Nat × Heap => ⟨ofL [(6, .own y.1 0 (L.length + 1) (L.length + 1) 1 false)], y.2⟩) (fun y => y.2.map y.1 = some ⟨A', false⟩ ∧ y.1 < y.2.nb ∧ H.nb ≤ y.2.nb ∧ ∀ x, x < H.nb → y.2.map x = H.map x) ?_ ?_
  · rcases Nat.eq_zero_or_pos k with h0 | h0 <;> rcases Nat.lt_or_ge k L.length with h1 | h1
    all_goals
      refine SW.regionP (fun _ => True) [3, 10] [0, 4, 6, 7, 11] [0, 1, 2, 3, 4, 5, 6, 7, 8, 9, 10, 11, 12] [[0, 1, 2, 3, 5, 6, 4, 7, 8, 9, 10, 11, 12], [1, 2, 3, 5, 6, 0, 4, 7, 8, 9, 10, 11, 12]] Tryz.mixed (by kernel_rfl) trivial ⟨?_, ?_, ?_, trivial⟩
    all_goals
      simp (disch := omega) only [go_sem, rz, hb, hil, hf1, hf2, lt, tk0, dt, lt1, tk1, ze, zc, zb, za]
      refine SliceS.own ?_
      simp (disch := omega) only [go_sem, rz, hb, hil, hf1, hf2, lt, tk0, dt, lt1, tk1, ze, zc, zb, za]
      refine SliceS.own ?_
      simp (disch := omega) only [go_sem, rz, hb, hil, hf1, hf2, lt, tk0, dt, lt1, tk1, ze, zc, zb, za]
    iterate 3
      · have n1 : 1 + (L.length - k) = L.length + 1 := by omega
        have e2 : A' = .val (.string (sb s)) :: List.drop k A := by rw [e1, h0]; rfl
        refine ⟨(H.nb + 1 + 1 + 1, _), ⟨?_, ?_, ?_, ?_⟩, Wk.of (by simp only [go_sem, ↓List.forall_mem_cons, List.not_mem_nil, false_implies, implies_true, and_true, true_and, and_self, ri_eq, Int.natCast_add, Int.cast_ofNat_Int, n1]; try simp) rfl⟩
        · simp (disch := omega) only [ze, zb, zc, za, if_pos, if_neg, ↓reduceIte]
          rw [e2]
        · simp only [zc, za]; omega
        · simp only [zc, za]; omega
        · intro x hx
          simp (disch := omega) only [ze, zb, zc, za, if_pos, if_neg, ↓reduceIte]
    iterate 3
      · have n1 : L.length = 0 := by omega
        have e2 : A' = [.val (.string (sb s))] := by rw [e1, h0, List.drop_zero, List.length_eq_zero_iff.1 (hil.trans n1)]; rfl
        refine ⟨(H.nb + 1 + 1, _), ⟨?_, ?_, ?_, ?_⟩, Wk.of (by simp only [go_sem, ↓List.forall_mem_cons, List.not_mem_nil, false_implies, implies_true, and_true, true_and, and_self, ri_eq, Int.natCast_add, Int.cast_ofNat_Int, n1]; try simp) rfl⟩
        · simp (disch := omega) only [ze, zb, zc, za, if_pos, if_neg, ↓reduceIte]
          rw [e2]
        · simp only [zc, za]; omega
        · simp only [zc, za]; omega
        · intro x hx
          simp (disch := omega) only [ze, zb, zc, za, if_pos, if_neg, ↓reduceIte]
    iterate 3
      · have n1 : k + 1 + (L.length - k) = L.length + 1 := by omega
        have e2 : A' = List.take k A ++ [SV.val (Value.string (sb s))] ++ List.drop k A := by rw [e1]; simp
        refine ⟨(H.nb + 1 + 1 + 1 + 1, _), ⟨?_, ?_, ?_, ?_⟩, Wk.of (by simp only [go_sem, ↓List.forall_mem_cons, List.not_mem_nil, false_implies, implies_true, and_true, true_and, and_self, ri_eq, Int.natCast_add, Int.cast_ofNat_Int, n1]; try simp) rfl⟩
        · simp (disch := omega) only [ze, zb, zc, za, if_pos, if_neg, ↓reduceIte]
          rw [e2]
        · simp only [zc, za]; omega
        · simp only [zc, za]; omega
        · intro x hx
          simp (disch := omega) only [ze, zb, zc, za, if_pos, if_neg, ↓reduceIte]
    iterate 3
      · have n1 : k = L.length := by omega
        have e2 : A' = List.take k A ++ [SV.val (Value.string (sb s))] := by rw [e1, List.drop_of_length_le (by omega)]
        refine ⟨(H.nb + 1 + 1 + 1, _), ⟨?_, ?_, ?_, ?_⟩, Wk.of (by simp only [go_sem, ↓List.forall_mem_cons, List.not_mem_nil, false_implies, implies_true, and_true, true_and, and_self, ri_eq, Int.natCast_add, Int.cast_ofNat_Int, n1]; try simp) rfl⟩
        · simp (disch := omega) only [ze, zb, zc, za, if_pos, if_neg, ↓reduceIte]
          rw [e2]
        · simp only [zc, za]; omega
        · simp only [zc, za]; omega
        · intro x hx
          simp (disch := omega) only [ze, zb, zc, za, if_pos, if_neg, ↓reduceIte]
  · rintro ⟨b', H'⟩ ⟨q1, q2, q3, q4⟩
    simp only at q1 q2 q3 q4
    refine SW_of_vc Tryz.mixed _ _ _ (by kernel_rfl) ?_
    simp (disch := omega) only [go_sem]
    exact ⟨b', L.length + 1, false, false, by rw [el], by omega, by rw [hA']; exact q1, q2, q3, q4⟩
end Go.Sh

/-
  Contracts: rules: valid, of a test, of a rule, the first that holds.
-/
namespace Go.Sh
open Go Go.Proofs

def okT (T : List Con) (k : Nat) : Bool := inR (cg T k).1 0 5 && (inR (cg T k).2.1 1 1000 && (decide (k = 0) || decide ((cg T (k - 1)).1 < (cg T k).1)))
def okR (T : List Con) : Bool := ((List.range T.length).all (okT T)) && inR T.length 1 3
def isVR (R : List (List Con)) : Bool := R.all okR && inR R.length 1 3
theorem okR_not {T : List Con} {k : Nat} (hk : k < T.length) (h : okT T k = false) : okR T = false := by
  have : (List.range T.length).all (okT T) = false := by
    rw [List.all_eq_false]; exact ⟨k, by simpa using hk, by rw [h]; simp⟩
  rw [okR, this, Bool.false_and]
theorem okR_of {T : List Con} (h : ∀ k, k < T.length → okT T k = true) : okR T = inR T.length 1 3 := by
  have : (List.range T.length).all (okT T) = true := by
    rw [List.all_eq_true]; intro k hk; exact h k (by simpa using hk)
  rw [okR, this, Bool.true_and]
theorem Tryz.isFeature_ok (x : Int) : PCall Tryz.prog 89 [.val (.int .i64 x)] (.val (.bool (inR x 0 5))) := by
  refine FCall.pcall (R := fun r _ => r = .val (.bool (inR x 0 5))) ?_ 0 (by rintro r H rfl; exact zg)
  refine FCall.of_body Tryz.func89 rfl (by kernel_rfl) (by simp [Tryz.ntmps89]) ?_
  have w := Tryz.within_ok x 0 5
  refine SW_of_vc Tryz.mixed _ _ _ (by kernel_rfl) ?_
  simp (disch := omega) only [go_sem]
  refine w.callV 0 (z6 (z8) (z6 (z8) (z6 (z8) z7))) ?_
  simp (disch := omega) only [go_sem]
  exact Fin.val rfl
theorem Tryz.isThreshold_ok (x : Int) : PCall Tryz.prog 90 [.val (.int .i64 x)] (.val (.bool (inR x 1 1000))) := by
  refine FCall.pcall (R := fun r _ => r = .val (.bool (inR x 1 1000))) ?_ 0 (by rintro r H rfl; exact zg)
  refine FCall.of_body Tryz.func90 rfl (by kernel_rfl) (by simp [Tryz.ntmps90]) ?_
  have w := Tryz.within_ok x 1 1000
  refine SW_of_vc Tryz.mixed _ _ _ (by kernel_rfl) ?_
  simp (disch := omega) only [go_sem]
  refine w.callV 0 (z6 (z8) (z6 (z8) (z6 (z8) z7))) ?_
  simp (disch := omega) only [go_sem]
  exact Fin.val rfl

set_option maxRecDepth 20000 in
set_option maxHeartbeats 8000000 in
theorem Tryz.specVR_ok (R : List (List Con)) (hR : R.length ≤ 1048576) (hT : ∀ i, i < R.length → (rg R i).length ≤ 1048576) : PCall Tryz.prog 40 [.agg [rR R]] (.val (.bool (isVR R))) := by
  refine FCall.pcall (R := fun r _ => r = .val (.bool (isVR R))) ?_ 0 (by rintro r H rfl; exact zg)
  refine FCall.of_body Tryz.func40 rfl (by kernel_rfl) (by simp [Tryz.ntmps40]) ?_
  have hrl := rules_length R
  refine SW_of_vc Tryz.mixed _ _ _ (by kernel_rfl) ?_
  simp (disch := omega) only [go_sem, rR]
  refine LoopW.loop (fun i : Nat => ⟨ofL [(1, .optr 0 0), (3, .val (.int .i64 i))], hp [(0, ⟨[rR R], true⟩)] 1⟩) (fun i => i ≤ R.length ∧ ∀ x, x < i → okR (R.getD x []) = true) (fun i => R.length - i) 0 ⟨by omega, by simp⟩ (Wk.of (by simp only [go_sem, ↓List.forall_mem_cons, List.not_mem_nil, false_implies, implies_true, and_true, true_and, and_self, ri_eq, Int.natCast_add, Int.cast_ofNat_Int, rR]; try simp) rfl) ?_
  rintro i ⟨hi, hii⟩
  refine SW_of_vc Tryz.mixed _ _ _ (by kernel_rfl) ?_
  by_cases hlt : i < R.length
  case neg =>
    obtain rfl : i = R.length := by omega
    have w := Tryz.l1In_ok R.length 1 3
    have e : isVR R = inR R.length 1 3 := by rw [isVR, (all_getD []).2 hii, Bool.true_and]
    rw [e]
    simp (disch := omega) only [go_sem, rR]
    refine w.callV 0 (z6 (z8) (z6 (z8) (z6 (z8) z7))) ?_
    simp (disch := omega) only [go_sem, rR]
    exact Fin.val rfl
  have gk := rules_get hlt
  have htl := hT i hlt
  have hno : okR (rg R i) = false → isVR R = false := fun h => by rw [isVR, all_not [] hlt h, Bool.false_and]
  have hyes : okR (rg R i) = true → ∀ x, x < i + 1 → okR (R.getD x []) = true := fun h x hx => by
    rcases Nat.lt_succ_iff_lt_or_eq.mp hx with g | rfl
    · exact hii x g
    · exact h
  clear hii
  generalize rg R i = T at *
  have hcl := cons_length T
  simp (disch := omega) only [go_sem, rR, gk, hrl]
  refine LoopW.loop (fun k : Nat => ⟨ofL [(1, .optr 0 0), (3, .val (.int .i64 i)), (4, rc T), (5, .val (.int .i64 k))], hp [(0, ⟨[rR R], true⟩)] 1⟩) (fun k => k ≤ T.length ∧ ∀ x, x < k → okT T x = true) (fun k => T.length - k) 0 ⟨by omega, by simp⟩ (Wk.of (by simp only [go_sem, ↓List.forall_mem_cons, List.not_mem_nil, false_implies, implies_true, and_true, true_and, and_self, ri_eq, Int.natCast_add, Int.cast_ofNat_Int, rR, rc]; try simp) rfl) ?_
  rintro k ⟨hk, hkk⟩
  refine SW_of_vc Tryz.mixed _ _ _ (by kernel_rfl) ?_
  by_cases hltk : k < T.length
  case neg =>
    obtain rfl : k = T.length := by omega
    have w := Tryz.l1In_ok T.length 1 3
    have e := okR_of hkk
    cases hin : inR T.length 1 3 with
    | true =>
      rw [hin] at w e
      simp (disch := omega) only [go_sem, rR, rc]
      refine w.callV 0 (z6 (z8) (z6 (z8) (z6 (z8) z7))) ?_
      simp (disch := omega) only [go_sem, rR, rc]
      exact ⟨i + 1, ⟨hlt, hyes e⟩, by omega, Wk.of (by simp only [go_sem, ↓List.forall_mem_cons, List.not_mem_nil, false_implies, implies_true, and_true, true_and, and_self, ri_eq, Int.natCast_add, Int.cast_ofNat_Int, rR, rc]; try simp) rfl⟩
    | false =>
      rw [hin] at w e
      simp (disch := omega) only [go_sem, rR, rc]
      refine w.callV 0 (z6 (z8) (z6 (z8) (z6 (z8) z7))) ?_
      simp (disch := omega) only [go_sem, rR, rc]
      exact Fin.val (by rw [hno e])
  obtain ⟨a, b, s, hc⟩ := con_ex T k
  obtain ⟨q0, q1, _, _⟩ := cons_of hltk hc
  have w1 := Tryz.l1In_ok a 0 5
  have w2 := Tryz.l1In_ok b 1 1000
  have eok : okT T k = (inR a 0 5 && (inR b 1 1000 && (decide (k = 0) || decide ((cg T (k - 1)).1 < a)))) := by rw [okT, hc]
  have hno2 : okT T k = false → isVR R = false := fun h => hno (okR_not hltk h)
  have hyes2 : okT T k = true → ∀ x, x < k + 1 → okT T x = true := fun h x hx => by
    rcases Nat.lt_succ_iff_lt_or_eq.mp hx with g | rfl
    · exact hkk x g
    · exact h
  clear hkk hno hyes
  cases ha : inR a 0 5 with
  | false =>
    rw [ha] at w1 eok
    simp (disch := omega) only [go_sem, rR, rc, q0, q1, hcl]
    refine w1.callDV 0 (z6 (z8) (z6 (z8) (z6 (z8) z7))) ?_
    simp (disch := omega) only [go_sem, rR, rc, q0, q1, hcl]
    exact Fin.val (by rw [hno2 (by rw [eok]; rfl)])
  | true =>
    rw [ha] at w1 eok
    cases hb : inR b 1 1000 with
    | false =>
      rw [hb] at w2 eok
      simp (disch := omega) only [go_sem, rR, rc, q0, q1, hcl]
      refine w1.callDV 0 (z6 (z8) (z6 (z8) (z6 (z8) z7))) ?_
      simp (disch := omega) only [go_sem, rR, rc, q0, q1, hcl]
      refine w2.callDV 0 (z6 (z8) (z6 (z8) (z6 (z8) z7))) ?_
      simp (disch := omega) only [go_sem, rR, rc, q0, q1, hcl]
      exact Fin.val (by rw [hno2 (by rw [eok]; rfl)])
    | true =>
      rw [hb] at w2 eok
      cases k with
      | zero =>
        simp (disch := omega) only [go_sem, rR, rc, q0, q1, hcl]
        refine w1.callDV 0 (z6 (z8) (z6 (z8) (z6 (z8) z7))) ?_
        simp (disch := omega) only [go_sem, rR, rc, q0, q1, hcl]
        refine w2.callDV 0 (z6 (z8) (z6 (z8) (z6 (z8) z7))) ?_
        simp (disch := omega) only [go_sem, rR, rc, q0, q1, hcl]
        exact ⟨1, ⟨by omega, hyes2 (by rw [eok]; rfl)⟩, by omega, Wk.of (by simp only [go_sem, ↓List.forall_mem_cons, List.not_mem_nil, false_implies, implies_true, and_true, true_and, and_self, ri_eq, Int.natCast_add, Int.cast_ofNat_Int, rR, rc]; try simp) rfl⟩
      | succ p =>
        obtain ⟨a', b', s', hc'⟩ := con_ex T p
        obtain ⟨p0, _, _, _⟩ := cons_of (k := p) (by omega) hc'
        rw [Nat.add_sub_cancel, hc'] at eok
        have hp1 : (((p + 1 : Nat) : Int)) - 1 = (p : Int) := by omega
        by_cases hlt3 : a' < a
        · simp (disch := omega) only [go_sem, rR, rc, q0, q1, p0, hcl, hp1]
          refine w1.callDV 0 (z6 (z8) (z6 (z8) (z6 (z8) z7))) ?_
          simp (disch := omega) only [go_sem, rR, rc, q0, q1, p0, hcl, hp1]
          refine w2.callDV 0 (z6 (z8) (z6 (z8) (z6 (z8) z7))) ?_
          simp (disch := omega) only [go_sem, rR, rc, q0, q1, p0, hcl, hp1]
          exact ⟨p + 1 + 1, ⟨by omega, hyes2 (by rw [eok]; simp [hlt3])⟩, by omega, Wk.of (by simp only [go_sem, ↓List.forall_mem_cons, List.not_mem_nil, false_implies, implies_true, and_true, true_and, and_self, ri_eq, Int.natCast_add, Int.cast_ofNat_Int, rR, rc]; try simp) rfl⟩
        · simp (disch := omega) only [go_sem, rR, rc, q0, q1, p0, hcl, hp1]
          refine w1.callDV 0 (z6 (z8) (z6 (z8) (z6 (z8) z7))) ?_
          simp (disch := omega) only [go_sem, rR, rc, q0, q1, p0, hcl, hp1]
          refine w2.callDV 0 (z6 (z8) (z6 (z8) (z6 (z8) z7))) ?_
          simp (disch := omega) only [go_sem, rR, rc, q0, q1, p0, hcl, hp1]
          exact Fin.val (by rw [hno2 (by rw [eok]; simp [hlt3])])

set_option maxRecDepth 20000 in
set_option maxHeartbeats 8000000 in
theorem Tryz.implVR_ok (R : List (List Con)) (hR : R.length ≤ 1048576) (hT : ∀ i, i < R.length → (rg R i).length ≤ 1048576) : PCall Tryz.prog 48 [.agg [rR R]] (.val (.bool (isVR R))) := by
  refine FCall.pcall (R := fun r _ => r = .val (.bool (isVR R))) ?_ 0 (by rintro r H rfl; exact zg)
  refine FCall.of_body Tryz.func48 rfl (by kernel_rfl) (by simp [Tryz.ntmps48]) ?_
  have hrl := rules_length R
  refine SW_of_vc Tryz.mixed _ _ _ (by kernel_rfl) ?_
  simp (disch := omega) only [go_sem, rR]
  refine LoopW.loop (fun y : Nat × Nat => ⟨ofL [(1, .optr 0 0), (8, rR R), (9, .val (.int .i64 R.length)), (10, .val (.int .i64 y.1))], hp [(0, ⟨[rR R], true⟩)] y.2⟩) (fun y => y.1 ≤ R.length ∧ 1 ≤ y.2 ∧ ∀ x, x < y.1 → okR (R.getD x []) = true) (fun y => R.length - y.1) (0, 1) ⟨by simp, by simp, by simp⟩ (Wk.of (by simp only [go_sem, ↓List.forall_mem_cons, List.not_mem_nil, false_implies, implies_true, and_true, true_and, and_self, ri_eq, Int.natCast_add, Int.cast_ofNat_Int, rR]; try simp) rfl) ?_
  rintro ⟨i, nb⟩ ⟨hi, hnb, hii⟩
  simp only at hi hnb hii
  refine SW_of_vc Tryz.mixed _ _ _ (by kernel_rfl) ?_
  by_cases hlt : i < R.length
  case neg =>
    obtain rfl : i = R.length := by omega
    have w := Tryz.within_ok R.length 1 3
    have e : isVR R = inR R.length 1 3 := by rw [isVR, (all_getD []).2 hii, Bool.true_and]
    rw [e]
    simp (disch := omega) only [go_sem, rR]
    refine w.callV 0 (z6 (z8) (z6 (z8) (z6 (z8) z7))) ?_
    simp (disch := omega) only [go_sem, rR]
    exact Fin.val rfl
  have gk := rules_get hlt
  have gl := rules_load hlt
  have htl := hT i hlt
  have hno : okR (rg R i) = false → isVR R = false := fun h => by rw [isVR, all_not [] hlt h, Bool.false_and]
  have hyes : okR (rg R i) = true → ∀ x, x < i + 1 → okR (R.getD x []) = true := fun h x hx => by
    rcases Nat.lt_succ_iff_lt_or_eq.mp hx with g | rfl
    · exact hii x g
    · exact h
  clear hii
  generalize rg R i = T at *
  have hcl := cons_length T
  have w := Tryz.within_ok T.length 1 3
  cases hin : inR T.length 1 3 with
  | false =>
    rw [hin] at w
    have e : okR T = false := by rw [okR, hin, Bool.and_false]
    simp (disch := omega) only [go_sem, rR, rc, gk, gl, hrl]
    refine w.callV 0 (z6 (z8) (z6 (z8) (z6 (z8) z7))) ?_
    simp (disch := omega) only [go_sem, rR, rc, gk, gl, hrl]
    exact Fin.val (by rw [hno e])
  | true =>
  rw [hin] at w
  simp (disch := omega) only [go_sem, rR, rc, gk, gl, hrl]
  refine w.callV 0 (z6 (z8) (z6 (z8) (z6 (z8) z7))) ?_
  simp (disch := omega) only [go_sem, rR, rc, gk, gl, hrl]
  refine LoopW.loop (fun y : Nat × Nat => ⟨ofL [(1, .optr 0 0), (4, .optr nb 0), (8, rR R), (9, .val (.int .i64 R.length)), (10, .val (.int .i64 i)), (20, rc T), (21, .val (.int .i64 T.length)), (22, .val (.int .i64 y.1))], hp [(nb, ⟨[rc T], true⟩), (0, ⟨[rR R], true⟩)] y.2⟩) (fun y => y.1 ≤ T.length ∧ nb < y.2 ∧ ∀ x, x < y.1 → okT T x = true) (fun y => T.length - y.1) (0, nb + 1) ⟨by simp, by simp, by simp⟩ (Wk.of (by simp only [go_sem, ↓List.forall_mem_cons, List.not_mem_nil, false_implies, implies_true, and_true, true_and, and_self, ri_eq, Int.natCast_add, Int.cast_ofNat_Int, rR, rc]; try simp) (by first | rfl | (simp only [rR, rc]; done))) ?_
  rintro ⟨k, nb2⟩ ⟨hk, hnb2, hkk⟩
  simp only at hk hnb2 hkk
  refine SW_of_vc Tryz.mixed _ _ _ (by kernel_rfl) ?_
  by_cases hltk : k < T.length
  case neg =>
    obtain rfl : k = T.length := by omega
    have e := okR_of hkk
    rw [hin] at e
    simp (disch := omega) only [go_sem, rR, rc]
    exact ⟨(i + 1, nb2), ⟨hlt, by show 1 ≤ nb2; omega, hyes e⟩, by show R.length - (i + 1) < R.length - i; omega, Wk.ofH (by simp only [go_sem, ↓List.forall_mem_cons, List.not_mem_nil, false_implies, implies_true, and_true, true_and, and_self, ri_eq, Int.natCast_add, Int.cast_ofNat_Int, rR, rc]; try simp) (by simp (disch := omega) only [hp, hmap, ↓List.forall_mem_cons, List.not_mem_nil, false_implies, implies_true, and_true, if_neg, if_pos, ↓reduceIte, rR]) (by simp [hp])⟩
  obtain ⟨a, b, s, hc⟩ := con_ex T k
  obtain ⟨q0, q1, q2, q3⟩ := cons_of hltk hc
  have w1 := Tryz.isFeature_ok a
  have w2 := Tryz.isThreshold_ok b
  have eok : okT T k = (inR a 0 5 && (inR b 1 1000 && (decide (k = 0) || decide ((cg T (k - 1)).1 < a)))) := by rw [okT, hc]
  have hno2 : okT T k = false → isVR R = false := fun h => hno (okR_not hltk h)
  have hyes2 : okT T k = true → ∀ x, x < k + 1 → okT T x = true := fun h x hx => by
    rcases Nat.lt_succ_iff_lt_or_eq.mp hx with g | rfl
    · exact hkk x g
    · exact h
  clear hkk hno hyes w
  cases ha : inR a 0 5 with
  | false =>
    rw [ha] at w1 eok
    simp (disch := omega) only [go_sem, rR, rc, q0, q1, q3, hcl]
    refine w1.callDV 0 (z6 (z8) z7) ?_
    simp (disch := omega) only [go_sem, rR, rc, q0, q1, q3, hcl]
    exact Fin.val (by rw [hno2 (by rw [eok]; rfl)])
  | true =>
    rw [ha] at w1 eok
    cases hb : inR b 1 1000 with
    | false =>
      rw [hb] at w2 eok
      simp (disch := omega) only [go_sem, rR, rc, q0, q1, q3, hcl]
      refine w1.callDV 0 (z6 (z8) z7) ?_
      simp (disch := omega) only [go_sem, rR, rc, q0, q1, q3, hcl]
      refine w2.callDV 0 (z6 (z8) z7) ?_
      simp (disch := omega) only [go_sem, rR, rc, q0, q1, q3, hcl]
      exact Fin.val (by rw [hno2 (by rw [eok]; rfl)])
    | true =>
      rw [hb] at w2 eok
      cases k with
      | zero =>
        have q3z : List.take 3 (cons T) = [.val (.int .i64 a), .val (.int .i64 b), .val (.bool s)] := by simpa using q3
        simp (disch := omega) only [go_sem, rR, rc, q0, q1, q3z, hcl]
        refine w1.callDV 0 (z6 (z8) z7) ?_
        simp (disch := omega) only [go_sem, rR, rc, q0, q1, q3z, hcl]
        refine w2.callDV 0 (z6 (z8) z7) ?_
        simp (disch := omega) only [go_sem, rR, rc, q0, q1, q3z, hcl]
        exact ⟨(1, nb2 + 1), ⟨by show 1 ≤ T.length; omega, by show nb < nb2 + 1; omega, hyes2 (by rw [eok]; rfl)⟩, by show T.length - 1 < T.length - 0; omega, Wk.ofH (by simp only [go_sem, ↓List.forall_mem_cons, List.not_mem_nil, false_implies, implies_true, and_true, true_and, and_self, ri_eq, Int.natCast_add, Int.cast_ofNat_Int, rR, rc]; try simp) (by simp (disch := omega) only [hp, hmap, ↓List.forall_mem_cons, List.not_mem_nil, false_implies, implies_true, and_true, if_neg, if_pos, ↓reduceIte, rR, rc, and_self]) (by simp [hp])⟩
      | succ p =>
        obtain ⟨a', b', s', hc'⟩ := con_ex T p
        obtain ⟨p0, _, _, _⟩ := cons_of (k := p) (by omega) hc'
        rw [Nat.add_sub_cancel, hc'] at eok
        have hp1 : (((p + 1 : Nat) : Int)) - 1 = (p : Int) := by omega
        by_cases hlt3 : a' < a
        · simp (disch := omega) only [go_sem, rR, rc, q0, q1, q3, hcl, p0, hp1]
          refine w1.callDV 0 (z6 (z8) z7) ?_
          simp (disch := omega) only [go_sem, rR, rc, q0, q1, q3, hcl, p0, hp1]
          refine w2.callDV 0 (z6 (z8) z7) ?_
          simp (disch := omega) only [go_sem, rR, rc, q0, q1, q3, hcl, p0, hp1]
          exact ⟨(p + 1 + 1, nb2 + 1), ⟨by show p + 1 + 1 ≤ T.length; omega, by show nb < nb2 + 1; omega, hyes2 (by rw [eok]; simp [hlt3])⟩, by show T.length - (p + 1 + 1) < T.length - (p + 1); omega, Wk.ofH (by simp only [go_sem, ↓List.forall_mem_cons, List.not_mem_nil, false_implies, implies_true, and_true, true_and, and_self, ri_eq, Int.natCast_add, Int.cast_ofNat_Int, rR, rc]; try simp) (by simp (disch := omega) only [hp, hmap, ↓List.forall_mem_cons, List.not_mem_nil, false_implies, implies_true, and_true, if_neg, if_pos, ↓reduceIte, rR, rc, and_self]) (by simp [hp])⟩
        · simp (disch := omega) only [go_sem, rR, rc, q0, q1, q3, hcl, p0, hp1]
          refine w1.callDV 0 (z6 (z8) z7) ?_
          simp (disch := omega) only [go_sem, rR, rc, q0, q1, q3, hcl, p0, hp1]
          refine w2.callDV 0 (z6 (z8) z7) ?_
          simp (disch := omega) only [go_sem, rR, rc, q0, q1, q3, hcl, p0, hp1]
          exact Fin.val (by rw [hno2 (by rw [eok]; simp [hlt3])])
end Go.Sh

/-
  Contracts: a test holds, a rule, the first rule; the weight of a pair.
-/
namespace Go.Sh
open Go Go.Proofs

def th (f : List Int) (t : Con) : Bool := isFV f && (inR t.1 0 5 && (decide (t.2.1 ≤ f.getD t.1.toNat 0) != t.2.2))
def rh (f : List Int) (T : List Con) : Bool := isFV f && T.all (th f)
def fr (R : List (List Con)) (f : List Int) : Int := if isVR R = true then fx (rh f) R else -1
theorem cg_all {T : List Con} {p : Con → Bool} : T.all p = true ↔ ∀ i, i < T.length → p (cg T i) = true := all_getD dc
set_option maxHeartbeats 2000000 in
theorem Tryz.specTH_ok (f : List Int) (hf : f.length ≤ 1048576) (a b : Int) (s : Bool) : PCall Tryz.prog 154 [.agg [.val (.int .i64 a), .val (.int .i64 b), .val (.bool s)], ri f] (.val (.bool (th f (a, b, s)))) := by
  refine FCall.pcall (R := fun r _ => r = .val (.bool (th f (a, b, s)))) ?_ 0 (by rintro r H rfl; exact zg)
  refine FCall.of_body Tryz.func154 rfl (by kernel_rfl) (by simp [Tryz.ntmps154]) ?_
  have w1 := Tryz.specFV_ok f hf
  have w2 := Tryz.l1In_ok a 0 5
  have lf := zh f
  unfold th
  simp only
  refine SW_of_vc Tryz.mixed _ _ _ (by kernel_rfl) ?_
  cases h1 : isFV f with
  | false =>
    rw [h1] at w1
    simp (disch := omega) only [go_sem]
    refine w1.callDV 0 (z6 (zf) z7) ?_
    simp (disch := omega) only [go_sem]
    exact Fin.val rfl
  | true =>
    rw [h1] at w1
    obtain ⟨fl, fr⟩ := isFV_t h1
    cases h2 : inR a 0 5 with
    | false =>
      rw [h2] at w2
      simp (disch := omega) only [go_sem]
      refine w1.callDV 0 (z6 (zf) z7) ?_
      simp (disch := omega) only [go_sem]
      refine w2.callDV 0 (z6 (z8) (z6 (z8) (z6 (z8) z7))) ?_
      simp (disch := omega) only [go_sem]
      exact Fin.val rfl
    | true =>
      rw [h2] at w2
      have ha := inR_of h2
      obtain ⟨x, rfl⟩ := Int.eq_ofNat_of_zero_le ha.1
      have g1 : (ints f)[x]? = some (.val (.int .i64 (f.getD x 0))) := ints_get (by omega)
      rw [Int.toNat_natCast]
      generalize f.getD x 0 = v at *
      by_cases h3 : b ≤ v
      · cases s <;> simp (disch := omega) only [go_sem, g1, lf]
        all_goals
          refine w1.callDV 0 (z6 (zf) z7) ?_
          simp (disch := omega) only [go_sem, g1, lf]
          refine w2.callDV 0 (z6 (z8) (z6 (z8) (z6 (z8) z7))) ?_
          simp (disch := omega) only [go_sem, g1, lf]
          exact Fin.val (by simp [h3])
      · cases s <;> simp (disch := omega) only [go_sem, g1, lf]
        all_goals
          refine w1.callDV 0 (z6 (zf) z7) ?_
          simp (disch := omega) only [go_sem, g1, lf]
          refine w2.callDV 0 (z6 (z8) (z6 (z8) (z6 (z8) z7))) ?_
          simp (disch := omega) only [go_sem, g1, lf]
          exact Fin.val (by simp [h3])

set_option maxHeartbeats 2000000 in
theorem Tryz.implTH_ok (f : List Int) (hf : f.length ≤ 1048576) (a b : Int) (s : Bool) : PCall Tryz.prog 218 [.agg [.val (.int .i64 a), .val (.int .i64 b), .val (.bool s)], ri f] (.val (.bool (th f (a, b, s)))) := by
  refine FCall.pcall (R := fun r _ => r = .val (.bool (th f (a, b, s)))) ?_ 0 (by rintro r H rfl; exact zg)
  refine FCall.of_body Tryz.func218 rfl (by kernel_rfl) (by simp [Tryz.ntmps218]) ?_
  have w1 := Tryz.implFV_ok f hf
  have w2 := Tryz.isFeature_ok a
  have lf := zh f
  unfold th
  simp only
  refine SW_of_vc Tryz.mixed _ _ _ (by kernel_rfl) ?_
  cases h1 : isFV f with
  | false =>
    rw [h1] at w1
    simp (disch := omega) only [go_sem]
    refine w1.callDV 0 (z6 (zf) z7) ?_
    simp (disch := omega) only [go_sem]
    exact Fin.val rfl
  | true =>
    rw [h1] at w1
    obtain ⟨fl, fr⟩ := isFV_t h1
    cases h2 : inR a 0 5 with
    | false =>
      rw [h2] at w2
      simp (disch := omega) only [go_sem]
      refine w1.callDV 0 (z6 (zf) z7) ?_
      simp (disch := omega) only [go_sem]
      refine w2.callDV 0 (z6 (z8) z7) ?_
      simp (disch := omega) only [go_sem]
      exact Fin.val rfl
    | true =>
      rw [h2] at w2
      have ha := inR_of h2
      obtain ⟨x, rfl⟩ := Int.eq_ofNat_of_zero_le ha.1
      have g1 : (ints f)[x]? = some (.val (.int .i64 (f.getD x 0))) := ints_get (by omega)
      rw [Int.toNat_natCast]
      generalize f.getD x 0 = v at *
      by_cases h3 : b ≤ v
      · cases s <;> simp (disch := omega) only [go_sem, g1, lf]
        all_goals
          refine w1.callDV 0 (z6 (zf) z7) ?_
          simp (disch := omega) only [go_sem, g1, lf]
          refine w2.callDV 0 (z6 (z8) z7) ?_
          simp (disch := omega) only [go_sem, g1, lf]
          exact Fin.val (by simp [h3])
      · cases s <;> simp (disch := omega) only [go_sem, g1, lf]
        all_goals
          refine w1.callDV 0 (z6 (zf) z7) ?_
          simp (disch := omega) only [go_sem, g1, lf]
          refine w2.callDV 0 (z6 (z8) z7) ?_
          simp (disch := omega) only [go_sem, g1, lf]
          exact Fin.val (by simp [h3])

set_option maxHeartbeats 2000000 in
theorem Tryz.specRH_ok (f : List Int) (hf : f.length ≤ 1048576) (T : List Con) (hT : T.length ≤ 1048576) : PCall Tryz.prog 112 [.agg [rc T], ri f] (.val (.bool (rh f T))) := by
  refine FCall.pcall (R := fun r _ => r = .val (.bool (rh f T))) ?_ 0 (by rintro r H rfl; exact zg)
  refine FCall.of_body Tryz.func112 rfl (by kernel_rfl) (by simp [Tryz.ntmps112]) ?_
  have lC := cons_length T
  have w1 := Tryz.specFV_ok f hf
  refine SW_of_vc Tryz.mixed _ _ _ (by kernel_rfl) ?_
  simp (disch := omega) only [go_sem, rc]
  refine LoopW.loop (fun k : Nat => ⟨ofL [(1, ri f), (2, .optr 0 0), (5, .val (.int .i64 k))], hp [(0, ⟨[rc T], true⟩)] 1⟩) (fun k => k ≤ T.length ∧ ∀ i, i < k → th f (cg T i) = true) (fun k => T.length - k) 0 ⟨by omega, by simp⟩ (Wk.of (by simp only [go_sem, ↓List.forall_mem_cons, List.not_mem_nil, false_implies, implies_true, and_true, true_and, and_self, ri_eq, Int.natCast_add, Int.cast_ofNat_Int, rc]; try simp) rfl) ?_
  rintro k ⟨hk, hkk⟩
  refine SW_of_vc Tryz.mixed _ _ _ (by kernel_rfl) ?_
  by_cases hlt : k < T.length
  · obtain ⟨a, b, s, hc⟩ := con_ex T k
    obtain ⟨q0, q1, q2, q3⟩ := cons_of hlt hc
    have w2 := Tryz.specTH_ok f hf a b s
    cases he : th f (a, b, s) with
    | true =>
      rw [he] at w2
      simp (disch := omega) only [go_sem, rc, q3, lC]
      refine w2.callV 1 (z6 (view_con) (z6 (zf) z7)) ?_
      simp (disch := omega) only [go_sem, rc, q3, lC]
      refine ⟨k + 1, ⟨by omega, fun i hi => ?_⟩, by omega, Wk.of (by simp only [go_sem, ↓List.forall_mem_cons, List.not_mem_nil, false_implies, implies_true, and_true, true_and, and_self, ri_eq, Int.natCast_add, Int.cast_ofNat_Int, rc]; try simp) rfl⟩
      rcases Nat.lt_succ_iff_lt_or_eq.mp hi with h | rfl
      · exact hkk i h
      · rw [hc]; exact he
    | false =>
      rw [he] at w2
      simp (disch := omega) only [go_sem, rc, q3, lC]
      refine w2.callV 1 (z6 (view_con) (z6 (zf) z7)) ?_
      simp (disch := omega) only [go_sem, rc, q3, lC]
      exact Fin.val (by rw [rh, all_not dc hlt (by show th f (cg T k) = false; rw [hc]; exact he), Bool.and_false])
  · have hall : T.all (th f) = true := cg_all.2 fun i hi => hkk i (by omega)
    simp (disch := omega) only [go_sem, rc]
    refine w1.callV 0 (z6 (zf) z7) ?_
    simp (disch := omega) only [go_sem, rc]
    exact Fin.val (by rw [rh, hall, Bool.and_true])
set_option maxHeartbeats 1000000 in
theorem Tryz.indexFuncT_ok (f : FuncId) (cap : List SV) (C : List Con) (pr : Con → Bool) (hC : C.length ≤ 1048576) (hcap : ∀ H fu, viewL H fu cap = some cap)
    (hf : ∀ a b s, PCall Tryz.prog f (.agg [.val (.int .i64 a), .val (.int .i64 b), .val (.bool s)] :: cap) (.val (.bool (pr (a, b, s))))) :
    PCall Tryz.prog 248 [rc C, .clos (.func f) [] cap] (.val (.int .i64 (fx pr C))) := by
  refine FCall.pcall (R := fun r _ => r = .val (.int .i64 (fx pr C))) ?_ 0 (by rintro r H rfl; exact z8)
  refine FCall.of_body Tryz.func248 rfl (by kernel_rfl) (by simp [Tryz.ntmps248]) ?_
  refine SW_of_vc Tryz.mixed _ _ _ (by kernel_rfl) ?_
  have lC := cons_length C
  simp (disch := omega) only [go_sem, rc]
  refine LoopW.loop (fun k : Nat => ⟨ofL [(0, rc C), (1, .clos (.func f) [] cap), (7, .val (.int .i64 C.length)), (8, .val (.int .i64 k))], hp [] 0⟩) (fun k => k ≤ C.length ∧ ∀ i, i < k → pr (C.getD i dc) = false) (fun k => C.length - k) 0 ⟨by omega, by simp⟩ (Wk.of (by simp only [go_sem, ↓List.forall_mem_cons, List.not_mem_nil, false_implies, implies_true, and_true, true_and, and_self, ri_eq, Int.natCast_add, Int.cast_ofNat_Int, rc]; try simp) rfl) ?_
  rintro k ⟨hk, hkk⟩
  refine SW_of_vc Tryz.mixed _ _ _ (by kernel_rfl) ?_
  by_cases hlt : k < C.length
  · obtain ⟨a, b, s, hc⟩ := con_ex C k
    obtain ⟨_, _, _, q3⟩ := cons_of hlt hc
    have w := hf a b s
    cases he : pr (a, b, s) with
    | true =>
      rw [he] at w
      simp (disch := omega) only [go_sem, rc, q3, lC]
      refine w.callV 1 (z6 view_con (hcap _ _)) ?_
      simp (disch := omega) only [go_sem, rc]
      exact Fin.val (by rw [fx_some dc hlt hkk (by show pr (cg C k) = true; rw [hc]; exact he)])
    | false =>
      rw [he] at w
      simp (disch := omega) only [go_sem, rc, q3, lC]
      refine w.callV 1 (z6 view_con (hcap _ _)) ?_
      simp (disch := omega) only [go_sem, rc]
      refine ⟨k + 1, ⟨by omega, fun i hi => ?_⟩, by omega, Wk.of (by simp only [go_sem, ↓List.forall_mem_cons, List.not_mem_nil, false_implies, implies_true, and_true, true_and, and_self, ri_eq, Int.natCast_add, Int.cast_ofNat_Int, rc]; try simp) rfl⟩
      rcases Nat.lt_succ_iff_lt_or_eq.mp hi with h | rfl
      · exact hkk i h
      · show pr (cg C i) = false; rw [hc]; exact he
  · simp (disch := omega) only [go_sem, rc]
    exact Fin.val (by rw [fx_none dc (fun i hi => hkk i (by omega))])
theorem Tryz.containsFuncT_ok (f : FuncId) (cap : List SV) (C : List Con) (pr : Con → Bool) (hC : C.length ≤ 1048576) (hcap : ∀ H fu, viewL H fu cap = some cap)
    (hf : ∀ a b s, PCall Tryz.prog f (.agg [.val (.int .i64 a), .val (.int .i64 b), .val (.bool s)] :: cap) (.val (.bool (pr (a, b, s))))) :
    PCall Tryz.prog 216 [rc C, .clos (.func f) [] cap] (.val (.bool (C.any pr))) := by
  refine FCall.pcall (R := fun r _ => r = .val (.bool (C.any pr))) ?_ 0 (by rintro r H rfl; exact zg)
  refine FCall.of_body Tryz.func216 rfl (by kernel_rfl) (by simp [Tryz.ntmps216]) ?_
  have w := Tryz.indexFuncT_ok f cap C pr hC hcap hf
  have hg := fx_ge pr C
  generalize fx pr C = q at *
  refine SW_of_vc Tryz.mixed _ _ _ (by kernel_rfl) ?_
  cases h : C.any pr with
  | true =>
    have := hg.mpr h
    simp (disch := omega) only [go_sem, rc]
    refine w.callV 1 (z6 zf (z6 (view_clos (hcap _ _)) z7)) ?_
    simp (disch := omega) only [go_sem, rc]
    exact Fin.val rfl
  | false =>
    have : ¬ 0 ≤ q := fun e => by rw [hg.mp e] at h; cases h
    simp (disch := omega) only [go_sem, rc]
    refine w.callV 1 (z6 zf (z6 (view_clos (hcap _ _)) z7)) ?_
    simp (disch := omega) only [go_sem, rc]
    exact Fin.val rfl
theorem Tryz.implRH1_ok (f : List Int) (hf : f.length ≤ 1048576) (a b : Int) (s : Bool) : PCall Tryz.prog 217 [.agg [.val (.int .i64 a), .val (.int .i64 b), .val (.bool s)], .rptr [ri f] 0] (.val (.bool (!th f (a, b, s)))) := by
  refine FCall.pcall (R := fun r _ => r = .val (.bool (!th f (a, b, s)))) ?_ 0 (by rintro r H rfl; exact zg)
  refine FCall.of_body Tryz.func217 rfl (by kernel_rfl) (by simp [Tryz.ntmps217]) ?_
  have w := Tryz.implTH_ok f hf a b s
  refine SW_of_vc Tryz.mixed _ _ _ (by kernel_rfl) ?_
  simp (disch := omega) only [go_sem]
  refine w.callV 1 (z6 (view_con) (z6 (zf) z7)) ?_
  simp (disch := omega) only [go_sem]
  exact Fin.val rfl
set_option maxHeartbeats 2000000 in
theorem Tryz.implRH_ok (f : List Int) (hf : f.length ≤ 1048576) (T : List Con) (hT : T.length ≤ 1048576) : PCall Tryz.prog 181 [.agg [rc T], ri f] (.val (.bool (rh f T))) := by
  refine FCall.pcall (R := fun r _ => r = .val (.bool (rh f T))) ?_ 0 (by rintro r H rfl; exact zg)
  refine FCall.of_body Tryz.func181 rfl (by kernel_rfl) (by simp [Tryz.ntmps181]) ?_
  have w1 := Tryz.implFV_ok f hf
  have w := Tryz.containsFuncT_ok 217 [.rptr [ri f] 0] T (fun c => !th f c) hT (cap_rptr _ _) (fun a b s => Tryz.implRH1_ok f hf a b s)
  have e := any_not (L := T) (p := th f)
  refine SW_of_vc Tryz.mixed _ _ _ (by kernel_rfl) ?_
  cases h1 : isFV f with
  | false =>
    rw [h1] at w1
    simp (disch := omega) only [go_sem, rc]
    refine w1.callV 0 (z6 (zf) z7) ?_
    simp (disch := omega) only [go_sem, rc]
    exact Fin.val (by rw [rh, h1, Bool.false_and])
  | true =>
    rw [h1] at w1
    simp (disch := omega) only [go_sem, rc]
    refine w1.callV 0 (z6 (zf) z7) ?_
    simp (disch := omega) only [go_sem, rc]
    refine w.callV 2 (z6 zf (z6 (view_clos (z6 (view_optr rfl (z6 zf z7)) z7)) z7)) ?_
    simp (disch := omega) only [go_sem, rc]
    exact Fin.val (by rw [e, rh, h1, Bool.true_and])

set_option maxHeartbeats 2000000 in
theorem Tryz.specFR_ok (R : List (List Con)) (f : List Int) (hR : R.length ≤ 1048576) (hT : ∀ i, i < R.length → (rg R i).length ≤ 1048576) (hf : f.length ≤ 1048576) : PCall Tryz.prog 64 [.agg [rR R], ri f] (.val (.int .i64 (fr R f))) := by
  refine FCall.pcall (R := fun r _ => r = .val (.int .i64 (fr R f))) ?_ 0 (by rintro r H rfl; exact z8)
  refine FCall.of_body Tryz.func64 rfl (by kernel_rfl) (by simp [Tryz.ntmps64]) ?_
  have hrl := rules_length R
  have w1 := Tryz.specVR_ok R hR hT
  have e0 : R.length = 0 → fr R f = -1 := fun h => by
    rw [List.length_eq_zero_iff.1 h, fr]; split <;> rfl
  refine SW_of_vc Tryz.mixed _ _ _ (by kernel_rfl) ?_
  simp (disch := omega) only [go_sem, rR]
  refine LoopW.loop (fun i : Nat => ⟨ofL [(1, ri f), (2, .optr 0 0), (5, .val (.int .i64 i))], hp [(0, ⟨[rR R], true⟩)] 1⟩) (fun i => i ≤ R.length ∧ (0 < i → isVR R = true) ∧ ∀ x, x < i → rh f (R.getD x []) = false) (fun i => R.length - i) 0 ⟨by omega, by simp, by simp⟩ (Wk.of (by simp only [go_sem, ↓List.forall_mem_cons, List.not_mem_nil, false_implies, implies_true, and_true, true_and, and_self, ri_eq, Int.natCast_add, Int.cast_ofNat_Int, rR]; try simp) rfl) ?_
  rintro i ⟨hi, hv, hii⟩
  refine SW_of_vc Tryz.mixed _ _ _ (by kernel_rfl) ?_
  by_cases hlt : i < R.length
  · cases h1 : isVR R with
    | false =>
      rw [h1] at w1
      simp (disch := omega) only [go_sem, rR]
      refine w1.callV 1 (z6 zi z7) ?_
      simp (disch := omega) only [go_sem, rR]
      exact Fin.val (by rw [fr, h1]; rfl)
    | true =>
      rw [h1] at w1
      have gk := rules_get hlt
      have gl := rules_load hlt
      have w2 := Tryz.specRH_ok f hf (rg R i) (hT i hlt)
      cases h2 : rh f (rg R i) with
      | true =>
        rw [h2] at w2
        simp (disch := omega) only [go_sem, rR, gk, gl, hrl]
        refine w1.callV 1 (z6 zi z7) ?_
        simp (disch := omega) only [go_sem, rR, gk, gl, hrl]
        refine w2.callV 1 (z6 zi (z6 zf z7)) ?_
        simp (disch := omega) only [go_sem, rR, gk, gl, hrl]
        exact Fin.val (by rw [fr, h1, if_pos rfl, fx_some [] hlt hii h2])
      | false =>
        rw [h2] at w2
        simp (disch := omega) only [go_sem, rR, gk, gl, hrl]
        refine w1.callV 1 (z6 zi z7) ?_
        simp (disch := omega) only [go_sem, rR, gk, gl, hrl]
        refine w2.callV 1 (z6 zi (z6 zf z7)) ?_
        simp (disch := omega) only [go_sem, rR, gk, gl, hrl]
        refine ⟨i + 1, ⟨hlt, fun x hx => ?_⟩, by omega, Wk.of (by simp only [go_sem, ↓List.forall_mem_cons, List.not_mem_nil, false_implies, implies_true, and_true, true_and, and_self, ri_eq, Int.natCast_add, Int.cast_ofNat_Int, rR]; try simp) rfl⟩
        rcases Nat.lt_succ_iff_lt_or_eq.mp hx with h | rfl
        · exact hii x h
        · exact h2
  · obtain rfl : i = R.length := by omega
    have e : fr R f = -1 := by
      by_cases h0 : R.length = 0
      · exact e0 h0
      · rw [fr, hv (by omega), if_pos rfl, fx_none [] hii]
    rw [e]
    simp (disch := omega) only [go_sem, rR]
    exact Fin.val rfl
set_option maxHeartbeats 1000000 in
theorem Tryz.indexFuncR_ok (f : FuncId) (cap : List SV) (R : List (List Con)) (pr : List Con → Bool) (hR : R.length ≤ 1048576) (hcap : ∀ H fu, viewL H fu cap = some cap)
    (hf : ∀ i, i < R.length → PCall Tryz.prog f (.agg [rc (rg R i)] :: cap) (.val (.bool (pr (rg R i))))) :
    PCall Tryz.prog 179 [rR R, .clos (.func f) [] cap] (.val (.int .i64 (fx pr R))) := by
  refine FCall.pcall (R := fun r _ => r = .val (.int .i64 (fx pr R))) ?_ 0 (by rintro r H rfl; exact z8)
  refine FCall.of_body Tryz.func179 rfl (by kernel_rfl) (by simp [Tryz.ntmps179]) ?_
  refine SW_of_vc Tryz.mixed _ _ _ (by kernel_rfl) ?_
  have hrl := rules_length R
  simp (disch := omega) only [go_sem, rR]
  refine LoopW.loop (fun k : Nat => ⟨ofL [(0, rR R), (1, .clos (.func f) [] cap), (7, .val (.int .i64 R.length)), (8, .val (.int .i64 k))], hp [] 0⟩) (fun k => k ≤ R.length ∧ ∀ i, i < k → pr (R.getD i []) = false) (fun k => R.length - k) 0 ⟨by omega, by simp⟩ (Wk.of (by simp only [go_sem, ↓List.forall_mem_cons, List.not_mem_nil, false_implies, implies_true, and_true, true_and, and_self, ri_eq, Int.natCast_add, Int.cast_ofNat_Int, rR]; try simp) rfl) ?_
  rintro k ⟨hk, hkk⟩
  refine SW_of_vc Tryz.mixed _ _ _ (by kernel_rfl) ?_
  by_cases hlt : k < R.length
  · have gk := rules_get hlt
    have gl := rules_load hlt
    have w := hf k hlt
    cases he : pr (rg R k) with
    | true =>
      rw [he] at w
      simp (disch := omega) only [go_sem, rR, gk, gl, hrl]
      refine w.callV 1 (z6 zi (hcap _ _)) ?_
      simp (disch := omega) only [go_sem, rR]
      exact Fin.val (by rw [fx_some [] hlt hkk he])
    | false =>
      rw [he] at w
      simp (disch := omega) only [go_sem, rR, gk, gl, hrl]
      refine w.callV 1 (z6 zi (hcap _ _)) ?_
      simp (disch := omega) only [go_sem, rR]
      refine ⟨k + 1, ⟨by omega, fun i hi => ?_⟩, by omega, Wk.of (by simp only [go_sem, ↓List.forall_mem_cons, List.not_mem_nil, false_implies, implies_true, and_true, true_and, and_self, ri_eq, Int.natCast_add, Int.cast_ofNat_Int, rR]; try simp) rfl⟩
      rcases Nat.lt_succ_iff_lt_or_eq.mp hi with h | rfl
      · exact hkk i h
      · exact he
  · simp (disch := omega) only [go_sem, rR]
    exact Fin.val (by rw [fx_none [] (fun i hi => hkk i (by omega))])
theorem Tryz.implFR1_ok (f : List Int) (hf : f.length ≤ 1048576) (T : List Con) (hT : T.length ≤ 1048576) : PCall Tryz.prog 180 [.agg [rc T], .rptr [ri f] 0] (.val (.bool (rh f T))) := by
  refine FCall.pcall (R := fun r _ => r = .val (.bool (rh f T))) ?_ 0 (by rintro r H rfl; exact zg)
  refine FCall.of_body Tryz.func180 rfl (by kernel_rfl) (by simp [Tryz.ntmps180]) ?_
  have w := Tryz.implRH_ok f hf T hT
  refine SW_of_vc Tryz.mixed _ _ _ (by kernel_rfl) ?_
  simp (disch := omega) only [go_sem, rc]
  refine w.callV 1 (z6 zi (z6 zf z7)) ?_
  simp (disch := omega) only [go_sem]
  exact Fin.val rfl
set_option maxHeartbeats 2000000 in
theorem Tryz.implFR_ok (R : List (List Con)) (f : List Int) (hR : R.length ≤ 1048576) (hT : ∀ i, i < R.length → (rg R i).length ≤ 1048576) (hf : f.length ≤ 1048576) : PCall Tryz.prog 138 [.agg [rR R], ri f] (.val (.int .i64 (fr R f))) := by
  refine FCall.pcall (R := fun r _ => r = .val (.int .i64 (fr R f))) ?_ 0 (by rintro r H rfl; exact z8)
  refine FCall.of_body Tryz.func138 rfl (by kernel_rfl) (by simp [Tryz.ntmps138]) ?_
  have w1 := Tryz.implVR_ok R hR hT
  have w := Tryz.indexFuncR_ok 180 [.rptr [ri f] 0] R (rh f) hR (cap_rptr _ _) (fun i hi => Tryz.implFR1_ok f hf (rg R i) (hT i hi))
  refine SW_of_vc Tryz.mixed _ _ _ (by kernel_rfl) ?_
  cases h1 : isVR R with
  | false =>
    rw [h1] at w1
    simp (disch := omega) only [go_sem, rR]
    refine w1.callV 1 (z6 zi z7) ?_
    simp (disch := omega) only [go_sem, rR]
    exact Fin.val (by rw [fr, h1]; rfl)
  | true =>
    rw [h1] at w1
    simp (disch := omega) only [go_sem, rR]
    refine w1.callV 1 (z6 zi z7) ?_
    simp (disch := omega) only [go_sem, rR]
    refine w.callV 2 (z6 zf (z6 (view_clos (z6 (view_optr rfl (z6 zf z7)) z7)) z7)) ?_
    simp (disch := omega) only [go_sem, rR]
    exact Fin.val (by rw [fr, h1, if_pos rfl])

theorem Tryz.specRsH_ok (R : List (List Con)) (f : List Int) (hR : R.length ≤ 1048576) (hT : ∀ i, i < R.length → (rg R i).length ≤ 1048576) (hf : f.length ≤ 1048576) : PCall Tryz.prog 25 [.agg [rR R], ri f] (.val (.bool (decide (0 ≤ fr R f)))) := by
  refine FCall.pcall (R := fun r _ => r = .val (.bool (decide (0 ≤ fr R f)))) ?_ 0 (by rintro r H rfl; exact zg)
  refine FCall.of_body Tryz.func25 rfl (by kernel_rfl) (by simp [Tryz.ntmps25]) ?_
  have w := Tryz.specFR_ok R f hR hT hf
  generalize fr R f = q at *
  refine SW_of_vc Tryz.mixed _ _ _ (by kernel_rfl) ?_
  by_cases h : 0 ≤ q
  · simp (disch := omega) only [go_sem, rR]
    refine w.callV 1 (z6 zi (z6 zf z7)) ?_
    simp (disch := omega) only [go_sem, rR]
    exact Fin.val (by simp [h])
  · simp (disch := omega) only [go_sem, rR]
    refine w.callV 1 (z6 zi (z6 zf z7)) ?_
    simp (disch := omega) only [go_sem, rR]
    exact Fin.val (by simp [h])

theorem Tryz.implRsH_ok (R : List (List Con)) (f : List Int) (hR : R.length ≤ 1048576) (hT : ∀ i, i < R.length → (rg R i).length ≤ 1048576) (hf : f.length ≤ 1048576) : PCall Tryz.prog 93 [.agg [rR R], ri f] (.val (.bool (decide (0 ≤ fr R f)))) := by
  refine FCall.pcall (R := fun r _ => r = .val (.bool (decide (0 ≤ fr R f)))) ?_ 0 (by rintro r H rfl; exact zg)
  refine FCall.of_body Tryz.func93 rfl (by kernel_rfl) (by simp [Tryz.ntmps93]) ?_
  have w := Tryz.implFR_ok R f hR hT hf
  generalize fr R f = q at *
  refine SW_of_vc Tryz.mixed _ _ _ (by kernel_rfl) ?_
  by_cases h : 0 ≤ q
  · simp (disch := omega) only [go_sem, rR]
    refine w.callV 1 (z6 zi (z6 zf z7)) ?_
    simp (disch := omega) only [go_sem, rR]
    exact Fin.val (by simp [h])
  · simp (disch := omega) only [go_sem, rR]
    refine w.callV 1 (z6 zi (z6 zf z7)) ?_
    simp (disch := omega) only [go_sem, rR]
    exact Fin.val (by simp [h])

def pwt (R : List (List Con)) (W : List Int) (b : Int) (f : List Int) : Int :=
  if (isVR R && (isSc W b && isFV f)) = true then (if 0 ≤ fr R f then (if (dot f W 6).tdiv (wsum W 6) - b < 1 then 1 else (dot f W 6).tdiv (wsum W 6) - b) else (if -1 < (dot f W 6).tdiv (wsum W 6) - b then -1 else (dot f W 6).tdiv (wsum W 6) - b)) else 0

set_option maxHeartbeats 4000000 in
theorem Tryz.specPW_ok (R : List (List Con)) (W : List Int) (b : Int) (f : List Int) (hR : R.length ≤ 1048576) (hT : ∀ i, i < R.length → (rg R i).length ≤ 1048576) (hW : W.length ≤ 1048576) (hf : f.length ≤ 1048576) : PCall Tryz.prog 42 [.agg [rR R], sS W b, ri f] (.val (.int .i64 (pwt R W b f))) := by
  refine FCall.pcall (R := fun r _ => r = .val (.int .i64 (pwt R W b f))) ?_ 0 (by rintro r H rfl; exact z8)
  refine FCall.of_body Tryz.func42 rfl (by kernel_rfl) (by simp [Tryz.ntmps42]) ?_
  have w1 := Tryz.specVR_ok R hR hT
  have w2 := Tryz.specSc_ok W b hW
  have w3 := Tryz.specFV_ok f hf
  have w4 := Tryz.specRsH_ok R f hR hT hf
  unfold pwt
  cases h1 : isVR R with
  | false =>
    rw [h1] at w1
    refine SW_of_vc Tryz.mixed _ _ _ (by kernel_rfl) ?_
    simp (disch := omega) only [go_sem, rR]
    refine w1.callV 1 (z6 zi z7) ?_
    simp (disch := omega) only [go_sem, rR]
    exact Fin.val rfl
  | true =>
  rw [h1] at w1
  cases h2 : isSc W b with
  | false =>
    rw [h2] at w2
    refine SW_of_vc Tryz.mixed _ _ _ (by kernel_rfl) ?_
    simp (disch := omega) only [go_sem, rR]
    refine w1.callV 1 (z6 zi z7) ?_
    simp (disch := omega) only [go_sem, rR]
    refine w2.callV 1 (z6 view_sS z7) ?_
    simp (disch := omega) only [go_sem, rR]
    exact Fin.val rfl
  | true =>
  have w5 := fun h => Tryz.specPS_ok W b f hW hf h2 h
  obtain ⟨g1, g2, g3, g4, g5⟩ := isSc_t h2
  rw [h2] at w2
  cases h3 : isFV f with
  | false =>
    rw [h3] at w3
    refine SW_of_vc Tryz.mixed _ _ _ (by kernel_rfl) ?_
    simp (disch := omega) only [go_sem, rR]
    refine w1.callV 1 (z6 zi z7) ?_
    simp (disch := omega) only [go_sem, rR]
    refine w2.callV 1 (z6 view_sS z7) ?_
    simp (disch := omega) only [go_sem, rR]
    refine w3.callV 0 (z6 (zf) z7) ?_
    simp (disch := omega) only [go_sem, rR]
    exact Fin.val rfl
  | true =>
  have w5 := w5 h3
  obtain ⟨f1, f2⟩ := isFV_t h3
  have hdb := dot_b f2 g2 6 (by omega)
  have hq : 0 ≤ (dot f W 6).tdiv (wsum W 6) := Int.tdiv_nonneg hdb.1 (by omega)
  have hq2 : (dot f W 6).tdiv (wsum W 6) ≤ dot f W 6 := Int.tdiv_le_self _ hdb.1
  rw [h3] at w3
  generalize (dot f W 6).tdiv (wsum W 6) = d at *
  simp only [Bool.and_self, if_true]
  refine SW_of_vc Tryz.mixed _ _ _ (by kernel_rfl) ?_
  by_cases h4 : 0 ≤ fr R f
  · rw [decide_eq_true h4] at w4
    rw [if_pos h4]
    by_cases h5 : d - b < 1
    · simp (disch := omega) only [go_sem, rR]
      refine w1.callV 1 (z6 zi z7) ?_
      simp (disch := omega) only [go_sem, rR]
      refine w2.callV 1 (z6 view_sS z7) ?_
      simp (disch := omega) only [go_sem, rR]
      refine w3.callV 0 (z6 (zf) z7) ?_
      simp (disch := omega) only [go_sem, rR]
      refine w5.callDV 1 (z6 view_sS (z6 zf z7)) ?_
      simp (disch := omega) only [go_sem, rR]
      refine w4.callV 1 (z6 zi (z6 zf z7)) ?_
      simp (disch := omega) only [go_sem, rR]
      exact Fin.val (by first | rfl | (rw [if_pos h5]; done))
    · simp (disch := omega) only [go_sem, rR]
      refine w1.callV 1 (z6 zi z7) ?_
      simp (disch := omega) only [go_sem, rR]
      refine w2.callV 1 (z6 view_sS z7) ?_
      simp (disch := omega) only [go_sem, rR]
      refine w3.callV 0 (z6 (zf) z7) ?_
      simp (disch := omega) only [go_sem, rR]
      refine w5.callDV 1 (z6 view_sS (z6 zf z7)) ?_
      simp (disch := omega) only [go_sem, rR]
      refine w4.callV 1 (z6 zi (z6 zf z7)) ?_
      simp (disch := omega) only [go_sem, rR]
      exact Fin.val (by first | rfl | (rw [if_neg h5]; done) | (rw [if_neg h5]; congr 2; omega) | (congr 2; split <;> omega))
  · rw [decide_eq_false h4] at w4
    rw [if_neg h4]
    by_cases h5 : -1 < d - b
    · simp (disch := omega) only [go_sem, rR]
      refine w1.callV 1 (z6 zi z7) ?_
      simp (disch := omega) only [go_sem, rR]
      refine w2.callV 1 (z6 view_sS z7) ?_
      simp (disch := omega) only [go_sem, rR]
      refine w3.callV 0 (z6 (zf) z7) ?_
      simp (disch := omega) only [go_sem, rR]
      refine w5.callDV 1 (z6 view_sS (z6 zf z7)) ?_
      simp (disch := omega) only [go_sem, rR]
      refine w4.callV 1 (z6 zi (z6 zf z7)) ?_
      simp (disch := omega) only [go_sem, rR]
      exact Fin.val (by first | rfl | (rw [if_pos h5]; done))
    · simp (disch := omega) only [go_sem, rR]
      refine w1.callV 1 (z6 zi z7) ?_
      simp (disch := omega) only [go_sem, rR]
      refine w2.callV 1 (z6 view_sS z7) ?_
      simp (disch := omega) only [go_sem, rR]
      refine w3.callV 0 (z6 (zf) z7) ?_
      simp (disch := omega) only [go_sem, rR]
      refine w5.callDV 1 (z6 view_sS (z6 zf z7)) ?_
      simp (disch := omega) only [go_sem, rR]
      refine w4.callV 1 (z6 zi (z6 zf z7)) ?_
      simp (disch := omega) only [go_sem, rR]
      exact Fin.val (by first | rfl | (rw [if_neg h5]; done) | (rw [if_neg h5]; congr 2; omega) | (congr 2; split <;> omega))

set_option maxHeartbeats 4000000 in
theorem Tryz.implPW_ok (R : List (List Con)) (W : List Int) (b : Int) (f : List Int) (hR : R.length ≤ 1048576) (hT : ∀ i, i < R.length → (rg R i).length ≤ 1048576) (hW : W.length ≤ 1048576) (hf : f.length ≤ 1048576) : PCall Tryz.prog 51 [.agg [rR R], sS W b, ri f] (.val (.int .i64 (pwt R W b f))) := by
  refine FCall.pcall (R := fun r _ => r = .val (.int .i64 (pwt R W b f))) ?_ 0 (by rintro r H rfl; exact z8)
  refine FCall.of_body Tryz.func51 rfl (by kernel_rfl) (by simp [Tryz.ntmps51]) ?_
  have w1 := Tryz.implVR_ok R hR hT
  have w2 := Tryz.implSc_ok W b hW
  have w3 := Tryz.implFV_ok f hf
  have w4 := Tryz.implRsH_ok R f hR hT hf
  unfold pwt
  cases h1 : isVR R with
  | false =>
    rw [h1] at w1
    refine SW_of_vc Tryz.mixed _ _ _ (by kernel_rfl) ?_
    simp (disch := omega) only [go_sem, rR]
    refine w1.callV 1 (z6 zi z7) ?_
    simp (disch := omega) only [go_sem, rR]
    exact Fin.val rfl
  | true =>
  rw [h1] at w1
  cases h2 : isSc W b with
  | false =>
    rw [h2] at w2
    refine SW_of_vc Tryz.mixed _ _ _ (by kernel_rfl) ?_
    simp (disch := omega) only [go_sem, rR]
    refine w1.callV 1 (z6 zi z7) ?_
    simp (disch := omega) only [go_sem, rR]
    refine w2.callV 1 (z6 view_sS z7) ?_
    simp (disch := omega) only [go_sem, rR]
    exact Fin.val rfl
  | true =>
  have w5 := fun h => Tryz.implPS_ok W b f hW hf h2 h
  obtain ⟨g1, g2, g3, g4, g5⟩ := isSc_t h2
  rw [h2] at w2
  cases h3 : isFV f with
  | false =>
    rw [h3] at w3
    refine SW_of_vc Tryz.mixed _ _ _ (by kernel_rfl) ?_
    simp (disch := omega) only [go_sem, rR]
    refine w1.callV 1 (z6 zi z7) ?_
    simp (disch := omega) only [go_sem, rR]
    refine w2.callV 1 (z6 view_sS z7) ?_
    simp (disch := omega) only [go_sem, rR]
    refine w3.callV 0 (z6 (zf) z7) ?_
    simp (disch := omega) only [go_sem, rR]
    exact Fin.val rfl
  | true =>
  have w5 := w5 h3
  obtain ⟨f1, f2⟩ := isFV_t h3
  have hdb := dot_b f2 g2 6 (by omega)
  have hq : 0 ≤ (dot f W 6).tdiv (wsum W 6) := Int.tdiv_nonneg hdb.1 (by omega)
  have hq2 : (dot f W 6).tdiv (wsum W 6) ≤ dot f W 6 := Int.tdiv_le_self _ hdb.1
  rw [h3] at w3
  generalize (dot f W 6).tdiv (wsum W 6) = d at *
  simp only [Bool.and_self, if_true]
  refine SW_of_vc Tryz.mixed _ _ _ (by kernel_rfl) ?_
  by_cases h4 : 0 ≤ fr R f
  · rw [decide_eq_true h4] at w4
    rw [if_pos h4]
    by_cases h5 : d - b < 1
    · simp (disch := omega) only [go_sem, rR]
      refine w1.callV 1 (z6 zi z7) ?_
      simp (disch := omega) only [go_sem, rR]
      refine w2.callV 1 (z6 view_sS z7) ?_
      simp (disch := omega) only [go_sem, rR]
      refine w3.callV 0 (z6 (zf) z7) ?_
      simp (disch := omega) only [go_sem, rR]
      refine w5.callDV 1 (z6 view_sS (z6 zf z7)) ?_
      simp (disch := omega) only [go_sem, rR]
      refine w4.callV 1 (z6 zi (z6 zf z7)) ?_
      simp (disch := omega) only [go_sem, rR]
      exact Fin.val (by first | rfl | (rw [if_pos h5]; done))
    · simp (disch := omega) only [go_sem, rR]
      refine w1.callV 1 (z6 zi z7) ?_
      simp (disch := omega) only [go_sem, rR]
      refine w2.callV 1 (z6 view_sS z7) ?_
      simp (disch := omega) only [go_sem, rR]
      refine w3.callV 0 (z6 (zf) z7) ?_
      simp (disch := omega) only [go_sem, rR]
      refine w5.callDV 1 (z6 view_sS (z6 zf z7)) ?_
      simp (disch := omega) only [go_sem, rR]
      refine w4.callV 1 (z6 zi (z6 zf z7)) ?_
      simp (disch := omega) only [go_sem, rR]
      exact Fin.val (by first | rfl | (rw [if_neg h5]; done) | (rw [if_neg h5]; congr 2; omega) | (congr 2; split <;> omega))
  · rw [decide_eq_false h4] at w4
    rw [if_neg h4]
    by_cases h5 : -1 < d - b
    · simp (disch := omega) only [go_sem, rR]
      refine w1.callV 1 (z6 zi z7) ?_
      simp (disch := omega) only [go_sem, rR]
      refine w2.callV 1 (z6 view_sS z7) ?_
      simp (disch := omega) only [go_sem, rR]
      refine w3.callV 0 (z6 (zf) z7) ?_
      simp (disch := omega) only [go_sem, rR]
      refine w5.callDV 1 (z6 view_sS (z6 zf z7)) ?_
      simp (disch := omega) only [go_sem, rR]
      refine w4.callV 1 (z6 zi (z6 zf z7)) ?_
      simp (disch := omega) only [go_sem, rR]
      exact Fin.val (by first | rfl | (rw [if_pos h5]; done))
    · simp (disch := omega) only [go_sem, rR]
      refine w1.callV 1 (z6 zi z7) ?_
      simp (disch := omega) only [go_sem, rR]
      refine w2.callV 1 (z6 view_sS z7) ?_
      simp (disch := omega) only [go_sem, rR]
      refine w3.callV 0 (z6 (zf) z7) ?_
      simp (disch := omega) only [go_sem, rR]
      refine w5.callDV 1 (z6 view_sS (z6 zf z7)) ?_
      simp (disch := omega) only [go_sem, rR]
      refine w4.callV 1 (z6 zi (z6 zf z7)) ?_
      simp (disch := omega) only [go_sem, rR]
      exact Fin.val (by first | rfl | (rw [if_neg h5]; done) | (rw [if_neg h5]; congr 2; omega) | (congr 2; split <;> omega))
end Go.Sh

/-
  Numbers of any size as text: with the table of the powers of ten.
-/
namespace Go.Sh
open Go Go.Proofs

theorem below_drew (w : World) (k : Nat) (os : Array Obj) : RowKit.Below w.heap.size w (Go.Sort.grow (w.drewN k) os) :=
  ⟨rfl, rfl, rfl, by show w.heap.size ≤ (w.heap ++ os).size; rw [Array.size_append]; omega, fun i hi => by
    show (w.heap ++ os)[i]? = w.heap[i]?
    rw [Array.getElem?_append_left hi]⟩
theorem Tryz.powG : Tryz.prog.globalNamed "internal/strconv.uint64pow10" = some 6 := by kernel_rfl
theorem Tryz.pow_tab {O : Nat → Prop} {w : World} (h : TabOk O w) : Lib.TabIs Tryz.prog w "internal/strconv.uint64pow10" .u64 Lib.pow10Tab := by
  obtain ⟨⟨c, e, fr, h1, h2⟩, hc⟩ := h (6, (List.range 20).map fun i v => v = Value.int .u64 ((10 ^ i : Nat) : Int)) (by simp [TABS])
  have hv : w.var? Tryz.prog "internal/strconv.uint64pow10" = some c := by
    unfold World.var?
    rw [Tryz.powG]
    simp only [Option.bind_some, h1]
  unfold Lib.TabIs
  rw [hv]
  congr 1
  simp only [List.length_map, List.length_range] at h2
  apply Array.ext_getElem?
  intro i
  by_cases hi : i < 20
  · obtain ⟨v, g1, g2, _⟩ := hc i (fun v => v = Value.int .u64 ((10 ^ i : Nat) : Int)) (by simp [hi])
    have g3 := World.var?_cell Tryz.powG hv i
    rw [g1, g2] at g3
    rw [← g3]
    simp [Lib.pow10Tab, hi]
  · rw [Array.getElem?_eq_none (by omega), Array.getElem?_eq_none (by simp [Lib.pow10Tab]; omega)]
theorem Tryz.itoa_ok (n : Int) (n1 : -9223372036854775808 ≤ n) (n2 : n ≤ 9223372036854775807) : PCall Tryz.prog 166 [.val (.int .i64 n)] (str (Lib.itoa n)) := by
  refine ⟨⟨_, Tryz.func166, rfl, rfl⟩, fun w vs hl ht => ?_⟩
  simp only [LRel, VRel] at hl
  obtain ⟨v, rest, rfl, rfl, rfl⟩ := hl
  refine (Tryz.strconv_Itoa n n1 n2 w (Tryz.pow_tab ht)).mono ?_
  rintro e w' ⟨rfl, k, os, rfl⟩
  refine ⟨_, rfl, below_drew w k os, ?_⟩
  simp only [VRel]; rfl
theorem Tryz.implFI_ok (n : Int) (n1 : -9223372036854775808 ≤ n) (n2 : n ≤ 9223372036854775807) : PCall Tryz.prog 124 [.val (.int .i64 n)] (str (Lib.itoa n)) := by
  have h := Tryz.itoa_ok n n1 n2
  refine FCall.pcall (R := fun r _ => r = str (Lib.itoa n)) ?_ 0 (by rintro r H rfl; exact zd)
  refine FCall.of_body Tryz.func124 rfl (by kernel_rfl) (by simp [Tryz.ntmps124]) ?_
  refine SW_of_vc Tryz.mixed _ _ _ (by kernel_rfl) ?_
  simp (disch := omega) only [go_sem]
  refine h.callV 0 (z6 (z8) z7) ?_
  simp (disch := omega) only [go_sem]
  exact Fin.val rfl
end Go.Sh

/-
  Labels by first occurrence: what they tell of the list; refinement as equality of the meet.
-/
namespace Go.Sh
open Go Go.Proofs

def rng (n : Nat) : List Int := (List.range n).map fun x : Nat => (x : Int)
end Go.Sh

/-
  Partitions read back from their text: plain.
-/
namespace Go.Sh
open Go Go.Proofs

structure SInv (L : List Int) (p : List Int × Int) (D : Nat → Prop) : Prop where
  ln : p.1.length = 8
  n0 : 0 ≤ p.2
  n1 : p.2 ≤ L.length
  ok : ∀ x, D x → p.1.getD x 0 = L.getD x 0 ∧ (x : Int) < p.2
end Go.Sh

/-
  Contracts: the blocks of a partition. Of the program.
-/
namespace Go.Sh
open Go Go.Proofs

end Go.Sh

/-
  Plain: components of a graph over 0 .. n-1, numbered by their first item; that the labels are determined; what a search leaves behind.
-/
namespace Go.Sh
open Go Go.Proofs

inductive Rch (n : Nat) (B : Nat → Nat → Bool) : Nat → Nat → Prop
  | refl {x : Nat} : Rch n B x x
  | tail {x y z : Nat} : Rch n B x y → y < n → z < n → B y z = true → Rch n B x z
theorem Rch.trans {n : Nat} {B : Nat → Nat → Bool} {x y z : Nat} (h : Rch n B x y) (g : Rch n B y z) : Rch n B x z := by
  induction g with
  | refl => exact h
  | tail _ h1 h2 h3 ih => exact .tail ih h1 h2 h3
theorem Rch.one {n : Nat} {B : Nat → Nat → Bool} {x y : Nat} (h1 : x < n) (h2 : y < n) (h : B x y = true) : Rch n B x y := .tail .refl h1 h2 h
theorem Rch.symm {n : Nat} {B : Nat → Nat → Bool} (hs : ∀ x y, x < n → y < n → B x y = true → B y x = true) {x y : Nat} (h : Rch n B x y) : Rch n B y x := by
  induction h with
  | refl => exact .refl
  | tail _ h1 h2 h3 ih => exact (Rch.one h2 h1 (hs _ _ h1 h2 h3)).trans ih
theorem Rch.mono {n : Nat} {B B' : Nat → Nat → Bool} (hb : ∀ x y, x < n → y < n → B x y = true → Rch n B' x y) {x y : Nat} (h : Rch n B x y) : Rch n B' x y := by
  induction h with
  | refl => exact .refl
  | tail _ h1 h2 h3 ih => exact ih.trans (hb _ _ h1 h2 h3)
def RchK (n : Nat) (B : Nat → Nat → Bool) : Nat → Nat → Nat → Prop
  | 0, x, y => x = y
  | k + 1, x, z => RchK n B k x z ∨ ∃ y, y < n ∧ z < n ∧ RchK n B k x y ∧ B y z = true
theorem RchK.self {n : Nat} {B : Nat → Nat → Bool} : ∀ {k x : Nat}, RchK n B k x x
  | 0, x => rfl
  | k + 1, x => .inl RchK.self
theorem countP_lt {α : Type} {p q : α → Bool} : ∀ {l : List α} {i : α}, (∀ x ∈ l, p x = true → q x = true) → i ∈ l → q i = true → p i = false → l.countP p < l.countP q
  | [], i, _, h, _, _ => by simp at h
  | a :: l, i, hpq, h, hq, hp => by
    have hle : l.countP p ≤ l.countP q := List.countP_mono_left (fun x hx h => hpq x (by simp [hx]) h)
    rcases List.mem_cons.1 h with rfl | h
    · rw [List.countP_cons_of_neg (by simp [hp]), List.countP_cons_of_pos hq]; omega
    · have := countP_lt (fun x hx => hpq x (by simp [hx])) h hq hp
      rw [List.countP_cons, List.countP_cons]
      have := hpq a (by simp)
      cases hpa : p a with
      | false => simp; omega
      | true => simp [this hpa]; omega
open Classical in
theorem rch_closed {n : Nat} {B : Nat → Nat → Bool} {i : Nat} (hi : i < n) : ∀ k, (∀ x y, x < n → y < n → RchK n B k i x → B x y = true → RchK n B k i y) ∨ k + 1 ≤ (List.range n).countP (fun x => decide (RchK n B k i x))
  | 0 => by
    right
    have : 0 < (List.range n).countP (fun x => decide (RchK n B 0 i x)) := List.countP_pos_iff.2 ⟨i, by simpa using hi, by simp [RchK]⟩
    omega
  | k + 1 => by
    by_cases hc : ∀ x y, x < n → y < n → RchK n B k i x → B x y = true → RchK n B k i y
    · left
      intro x y hx hy h hb
      refine .inl (hc x y hx hy ?_ hb)
      rcases h with h | ⟨z, h1, h2, h3, h4⟩
      · exact h
      · exact hc z x h1 h2 h3 h4
    · right
      have ih := (rch_closed hi k).resolve_left hc
      have : ∃ x y, x < n ∧ y < n ∧ RchK n B k i x ∧ B x y = true ∧ ¬ RchK n B k i y := by
        refine Classical.byContradiction fun hn => hc fun x y hx hy h hb => Classical.byContradiction fun h2 => hn ⟨x, y, hx, hy, h, hb, h2⟩
      obtain ⟨x, y, hx, hy, h, hb, h2⟩ := this
      have := countP_lt (p := fun x => decide (RchK n B k i x)) (q := fun x => decide (RchK n B (k + 1) i x)) (l := List.range n) (i := y)
        (fun z _ hz => decide_eq_true (.inl (of_decide_eq_true hz))) (by simpa using hy) (decide_eq_true (.inr ⟨x, hx, hy, h, hb⟩)) (decide_eq_false h2)
      omega
theorem rch_bound {n : Nat} {B : Nat → Nat → Bool} {i x : Nat} (hi : i < n) (h : Rch n B i x) : RchK n B n i x := by
  have hc := (rch_closed (B := B) hi n).resolve_right (fun h => by
    have := List.countP_le_length (l := List.range n) (p := fun x => @decide (RchK n B n i x) (Classical.propDecidable _))
    simp only [List.length_range] at this
    omega)
  induction h with
  | refl => exact RchK.self
  | tail _ h1 h2 h3 ih => exact hc _ _ h1 h2 ih h3

structure CompL (n : Nat) (B : Nat → Nat → Bool) (L : List Int) : Prop where
  len : L.length = n
  nn : ∀ x, x < n → 0 ≤ L.getD x 0
  can : ∀ x v, x < n → 0 ≤ v → v < L.getD x 0 → ∃ y, y < x ∧ L.getD y 0 = v
  iff : ∀ x y, x < n → y < n → (L.getD x 0 = L.getD y 0 ↔ Rch n B x y)
theorem list_ext {L L' : List Int} (h : L.length = L'.length) (g : ∀ x, x < L.length → L.getD x 0 = L'.getD x 0) : L = L' := by
  refine List.ext_getElem h fun i h1 h2 => ?_
  have := g i h1
  simpa [h1, h2] using this
theorem CompL.uniq {n : Nat} {B B' : Nat → Nat → Bool} {L L' : List Int} (h : CompL n B L) (h' : CompL n B' L') (hb : ∀ x y, x < n → y < n → (Rch n B x y ↔ Rch n B' x y)) : L = L' := by
  refine list_ext (h.len.trans h'.len.symm) (fun x hx => ?_)
  rw [h.len] at hx
  induction x using Nat.strongRecOn with
  | _ x ih =>
    rcases Int.lt_trichotomy (L.getD x 0) (L'.getD x 0) with hl | he | hl
    · obtain ⟨y, hy, e⟩ := h'.can x _ hx (h.nn x hx) hl
      have e2 := ih y hy (by omega)
      have := (h.iff y x (by omega) hx).1 (by omega)
      have := (h'.iff y x (by omega) hx).2 ((hb _ _ (by omega) hx).1 this)
      omega
    · exact he
    · obtain ⟨y, hy, e⟩ := h.can x _ hx (h'.nn x hx) hl
      have e2 := ih y hy (by omega)
      have := (h'.iff y x (by omega) hx).1 (by omega)
      have := (h.iff y x (by omega) hx).2 ((hb _ _ (by omega) hx).2 this)
      omega
open Classical in
noncomputable def comp (n : Nat) (B : Nat → Nat → Bool) : List Int := if h : ∃ L, CompL n B L then Classical.choose h else []
theorem CompL.eq {n : Nat} {B : Nat → Nat → Bool} {L : List Int} (h : CompL n B L) : L = comp n B := by
  have hex : ∃ L, CompL n B L := ⟨L, h⟩
  rw [comp, dif_pos hex]
  exact h.uniq (Classical.choose_spec hex) (fun _ _ _ _ => Iff.rfl)
theorem CompL.comp {n : Nat} {B : Nat → Nat → Bool} {L : List Int} (h : CompL n B L) : CompL n B (comp n B) := by rw [← h.eq]; exact h

structure PartL (n : Nat) (B : Nat → Nat → Bool) (i : Nat) (c : Int) (O : List Int) : Prop where
  len : O.length = n
  c0 : 0 ≤ c
  ci : c ≤ i
  done : ∀ x, x < i → x < n → 0 ≤ O.getD x 0
  rng : ∀ x, x < n → O.getD x 0 < c
  vals : ∀ v, 0 ≤ v → v < c → ∃ y, y < i ∧ y < n ∧ O.getD y 0 = v
  can : ∀ x v, x < n → 0 ≤ v → v < O.getD x 0 → ∃ y, y < x ∧ O.getD y 0 = v
  clo : ∀ x y, x < n → y < n → 0 ≤ O.getD x 0 → B x y = true → O.getD y 0 = O.getD x 0
  snd : ∀ x y, x < n → y < n → 0 ≤ O.getD x 0 → O.getD x 0 = O.getD y 0 → Rch n B x y
theorem getD_rep {n x : Nat} {a : Int} (h : x < n) : (List.replicate n a).getD x 0 = a := by simp [h]
theorem PartL.zero (n : Nat) (B : Nat → Nat → Bool) : PartL n B 0 0 (List.replicate n (-1)) where
  len := by simp
  c0 := by omega
  ci := by omega
  done x h := by omega
  rng x h := by rw [getD_rep h]; omega
  vals v h1 h2 := by omega
  can x v h h1 h2 := by rw [getD_rep h] at h2; omega
  clo x y h1 _ h2 := by rw [getD_rep h1] at h2; omega
  snd x y h1 _ h2 := by rw [getD_rep h1] at h2; omega
theorem PartL.skip {n : Nat} {B : Nat → Nat → Bool} {i : Nat} {c : Int} {O : List Int} (h : PartL n B i c O) (hi : 0 ≤ O.getD i 0) : PartL n B (i + 1) c O where
  len := h.len
  c0 := h.c0
  ci := by have := h.ci; omega
  done x hx hn := by
    rcases Nat.lt_succ_iff_lt_or_eq.1 hx with g | rfl
    · exact h.done x g hn
    · exact hi
  rng := h.rng
  vals v h1 h2 := by
    obtain ⟨y, g1, g2⟩ := h.vals v h1 h2
    exact ⟨y, by omega, g2⟩
  can := h.can
  clo := h.clo
  snd := h.snd
theorem PartL.path {n : Nat} {B : Nat → Nat → Bool} {i : Nat} {c : Int} {O : List Int} (h : PartL n B i c O) {x y : Nat} (hr : Rch n B x y) (h0 : 0 ≤ O.getD x 0) : O.getD y 0 = O.getD x 0 := by
  induction hr with
  | refl => rfl
  | tail _ h1 h2 h3 ih => rw [h.clo _ _ h1 h2 (by rw [ih]; exact h0) h3, ih]
structure NewL (n : Nat) (B : Nat → Nat → Bool) (c : Int) (i : Nat) (O O' : List Int) : Prop where
  len : O'.length = n
  new : ∀ x, x < n → Rch n B i x → O'.getD x 0 = c
  old : ∀ x, x < n → ¬ Rch n B i x → 0 ≤ O.getD x 0 → O'.getD x 0 = O.getD x 0
  neg : ∀ x, x < n → ¬ Rch n B i x → O.getD x 0 < 0 → O'.getD x 0 < 0
theorem PartL.unl {n : Nat} {B : Nat → Nat → Bool} (hs : ∀ x y, x < n → y < n → B x y = true → B y x = true) {i : Nat} {c : Int} {O : List Int} (h : PartL n B i c O) {k : Nat} (h0 : O.getD k 0 < 0) {x : Nat} (hr : Rch n B k x) : O.getD x 0 < 0 := by
  refine Int.not_le.1 fun hn => ?_
  have := h.path (hr.symm hs) hn
  omega
theorem PartL.step {n : Nat} {B : Nat → Nat → Bool} (hs : ∀ x y, x < n → y < n → B x y = true → B y x = true) {i : Nat} {c : Int} {O O' : List Int} (h : PartL n B i c O) (hi : i < n) (h0 : O.getD i 0 < 0) (g : NewL n B c i O O') : PartL n B (i + 1) (c + 1) O' := by
  have hun : ∀ x, Rch n B i x → O.getD x 0 < 0 := fun x hr => h.unl hs h0 hr
  have hkeep : ∀ x, x < n → 0 ≤ O.getD x 0 → O'.getD x 0 = O.getD x 0 := fun x hx hn => g.old x hx (fun hr => by have := hun x hr; omega) hn
  have hback : ∀ x, x < n → ¬ Rch n B i x → 0 ≤ O'.getD x 0 → O'.getD x 0 = O.getD x 0 ∧ 0 ≤ O.getD x 0 := by
    intro x hx hr hn
    by_cases h1 : 0 ≤ O.getD x 0
    · exact ⟨hkeep x hx h1, h1⟩
    · have := g.neg x hx hr (by omega); omega
  have hc0 := h.c0
  have hci := h.ci
  refine ⟨g.len, by omega, by omega, ?_, ?_, ?_, ?_, ?_, ?_⟩
  · intro x hx hn
    rcases Nat.lt_succ_iff_lt_or_eq.1 hx with k | rfl
    · have := h.done x k hn
      rw [hkeep x hn this]; exact this
    · rw [g.new x hn .refl]; omega
  · intro x hx
    by_cases hr : Rch n B i x
    · rw [g.new x hx hr]; omega
    · by_cases hn : 0 ≤ O'.getD x 0
      · have := hback x hx hr hn
        have := h.rng x hx
        omega
      · omega
  · intro v h1 h2
    by_cases hv : v = c
    · exact ⟨i, by omega, hi, by rw [g.new i hi .refl, hv]⟩
    · obtain ⟨y, k1, k2, k3⟩ := h.vals v h1 (by omega)
      exact ⟨y, by omega, k2, by rw [hkeep y k2 (by omega), k3]⟩
  · intro x v hx h1 h2
    by_cases hr : Rch n B i x
    · rw [g.new x hx hr] at h2
      obtain ⟨y, k1, k2, k3⟩ := h.vals v h1 h2
      have : ¬ x < i := fun hl => by have := h.done x hl hx; have := hun x hr; omega
      exact ⟨y, by omega, by rw [hkeep y k2 (by omega), k3]⟩
    · have hb := hback x hx hr (by omega)
      rw [hb.1] at h2
      obtain ⟨y, k1, k2⟩ := h.can x v hx h1 h2
      exact ⟨y, k1, by rw [hkeep y (by omega) (by omega), k2]⟩
  · intro x y hx hy h1 hb
    by_cases hr : Rch n B i x
    · rw [g.new x hx hr, g.new y hy (.tail hr hx hy hb)]
    · have hq := hback x hx hr h1
      have := h.clo x y hx hy hq.2 hb
      rw [hkeep y hy (by omega)]
      omega
  · intro x y hx hy h1 he
    by_cases hr : Rch n B i x
    · by_cases hr2 : Rch n B i y
      · exact (hr.symm hs).trans hr2
      · have := g.new x hx hr
        have := hback y hy hr2 (by omega)
        have := h.rng y hy
        omega
    · have hq := hback x hx hr h1
      by_cases hr2 : Rch n B i y
      · have := g.new y hy hr2
        have := h.rng x hx
        omega
      · have := hback y hy hr2 (by omega)
        exact h.snd x y hx hy hq.2 (by omega)
theorem PartL.final {n : Nat} {B : Nat → Nat → Bool} {i : Nat} {c : Int} {O : List Int} (h : PartL n B i c O) (hi : n ≤ i) : CompL n B O where
  len := h.len
  nn x hx := h.done x (by omega) hx
  can := h.can
  iff x y hx hy := ⟨fun e => h.snd x y hx hy (h.done x (by omega) hx) e, fun r => (h.path r (h.done x (by omega) hx)).symm⟩

structure DfsL (n : Nat) (B : Nat → Nat → Bool) (c : Int) (i : Nat) (O O' : List Int) : Prop where
  len : O'.length = n
  self : O'.getD i 0 = c
  keep : ∀ x, x < n → 0 ≤ O.getD x 0 → O'.getD x 0 = O.getD x 0
  new : ∀ x, x < n → O.getD x 0 < 0 → O'.getD x 0 < 0 ∨ (O'.getD x 0 = c ∧ Rch n B i x)
  clo : ∀ x y, x < n → y < n → O.getD x 0 < 0 → 0 ≤ O'.getD x 0 → B x y = true → 0 ≤ O'.getD y 0
structure DfsK (n : Nat) (B : Nat → Nat → Bool) (c : Int) (i : Nat) (O : List Int) (k : Nat) (O' : List Int) : Prop where
  len : O'.length = n
  self : O'.getD i 0 = c
  keep : ∀ x, x < n → 0 ≤ O.getD x 0 → O'.getD x 0 = O.getD x 0
  new : ∀ x, x < n → O.getD x 0 < 0 → O'.getD x 0 < 0 ∨ (O'.getD x 0 = c ∧ Rch n B i x)
  clo : ∀ x y, x < n → y < n → x ≠ i → O.getD x 0 < 0 → 0 ≤ O'.getD x 0 → B x y = true → 0 ≤ O'.getD y 0
  cli : ∀ y, y < n → y < k → B i y = true → 0 ≤ O'.getD y 0
theorem getD_set {L : List Int} {i x : Nat} {a : Int} (hi : i < L.length) : (L.set i a).getD x 0 = if x = i then a else L.getD x 0 := by
  simp only [List.getD_eq_getElem?_getD, List.getElem?_set]
  by_cases h : i = x
  · subst h; simp [hi]
  · have : ¬ x = i := fun e => h e.symm
    simp [h, this]
theorem DfsK.start {n : Nat} {B : Nat → Nat → Bool} {c : Int} {i : Nat} {O : List Int} (hl : O.length = n) (hi : i < n) (h0 : O.getD i 0 < 0) : DfsK n B c i O 0 (O.set i c) where
  len := by simpa using hl
  self := by rw [getD_set (by omega), if_pos rfl]
  keep x hx h := by
    rw [getD_set (by omega), if_neg (fun e => by subst e; omega)]
  new x hx h := by
    rw [getD_set (by omega)]
    by_cases e : x = i
    · subst e; rw [if_pos rfl]; exact .inr ⟨rfl, .refl⟩
    · rw [if_neg e]; exact .inl h
  clo x y hx hy hne h h2 hb := by
    rw [getD_set (by omega), if_neg hne] at h2; omega
  cli y _ h := by omega
theorem DfsK.skip {n : Nat} {B : Nat → Nat → Bool} {c : Int} {i k : Nat} {O O' : List Int} (h : DfsK n B c i O k O') (hk : B i k = true → 0 ≤ O'.getD k 0) : DfsK n B c i O (k + 1) O' := by
  refine ⟨h.len, h.self, h.keep, h.new, h.clo, fun y hy hlt hb => ?_⟩
  rcases Nat.lt_succ_iff_lt_or_eq.1 hlt with g | rfl
  · exact h.cli y hy g hb
  · exact hk hb
theorem DfsK.step {n : Nat} {B : Nat → Nat → Bool} {c : Int} (hc : 0 ≤ c) {i k : Nat} {O O1 O2 : List Int} (hi : i < n) (hk : k < n) (h : DfsK n B c i O k O1) (hb : B i k = true) (hneg : O1.getD k 0 < 0) (g : DfsL n B c k O1 O2) : DfsK n B c i O (k + 1) O2 where
  len := g.len
  self := by rw [g.keep i hi (by rw [h.self]; exact hc), h.self]
  keep x hx h1 := by rw [g.keep x hx (by rw [h.keep x hx h1]; exact h1), h.keep x hx h1]
  new x hx h1 := by
    rcases h.new x hx h1 with g1 | ⟨g1, g2⟩
    · rcases g.new x hx g1 with g3 | ⟨g3, g4⟩
      · exact .inl g3
      · exact .inr ⟨g3, (Rch.one hi hk hb).trans g4⟩
    · exact .inr ⟨by rw [g.keep x hx (by omega), g1], g2⟩
  clo x y hx hy hne h1 h2 hb := by
    by_cases h3 : 0 ≤ O1.getD x 0
    · have := h.clo x y hx hy hne h1 h3 hb
      rw [g.keep y hy this]; exact this
    · exact g.clo x y hx hy (by omega) h2 hb
  cli y hy hlt hb := by
    rcases Nat.lt_succ_iff_lt_or_eq.1 hlt with k1 | rfl
    · have := h.cli y hy k1 hb
      rw [g.keep y hy this]; exact this
    · rw [g.self]; exact hc
theorem DfsK.final {n : Nat} {B : Nat → Nat → Bool} {c : Int} {i k : Nat} {O O' : List Int} (h : DfsK n B c i O k O') (hk : n ≤ k) : DfsL n B c i O O' where
  len := h.len
  self := h.self
  keep := h.keep
  new := h.new
  clo x y hx hy h1 h2 hb := by
    by_cases e : x = i
    · subst e; exact h.cli y hy (by omega) hb
    · exact h.clo x y hx hy e h1 h2 hb
def negs (n : Nat) (O : List Int) : Nat := (List.range n).countP fun x => decide (O.getD x 0 < 0)
theorem DfsK.negs {n : Nat} {B : Nat → Nat → Bool} {c : Int} (hc : 0 ≤ c) {i k : Nat} {O O' : List Int} (h : DfsK n B c i O k O') (hi : i < n) (h0 : O.getD i 0 < 0) : negs n O' < negs n O := by
  refine countP_lt (i := i) (fun x hx hd => ?_) (by simpa using hi) (decide_eq_true h0) (decide_eq_false (by rw [h.self]; omega))
  have hx : x < n := by simpa using hx
  have := of_decide_eq_true hd
  refine decide_eq_true (Int.not_le.1 fun hn => ?_)
  rw [h.keep x hx hn] at this
  omega
theorem negs_pos {n i : Nat} {O : List Int} (hi : i < n) (h : O.getD i 0 < 0) : 0 < negs n O := List.countP_pos_iff.2 ⟨i, by simpa using hi, decide_eq_true h⟩
theorem DfsL.newL {n : Nat} {B : Nat → Nat → Bool} (hs : ∀ x y, x < n → y < n → B x y = true → B y x = true) {i j : Nat} {c : Int} {O O' : List Int} (h : PartL n B j c O) (hi : i < n) (h0 : O.getD i 0 < 0) (g : DfsL n B c i O O') : NewL n B c i O O' where
  len := g.len
  new x hx hr := by
    have hun : ∀ x, Rch n B i x → O.getD x 0 < 0 := fun x hr => h.unl hs h0 hr
    induction hr with
    | refl => exact g.self
    | tail h1 h2 h3 h4 ih =>
      have e := ih h2
      have hc0 := h.c0
      have := g.clo _ _ h2 h3 (hun _ h1) (by omega) h4
      rcases g.new _ h3 (hun _ (.tail h1 h2 h3 h4)) with k | k
      · omega
      · exact k.1
  old x hx _ h1 := g.keep x hx h1
  neg x hx hr h1 := by
    rcases g.new x hx h1 with k | k
    · exact k
    · exact absurd k.2 hr

structure SpI (n : Nat) (B : Nat → Nat → Bool) (c : Int) (i : Nat) (O : List Int) (s a b : Nat) (O' : List Int) : Prop where
  len : O'.length = n
  all : ∀ x, x < n → O'.getD x 0 = O.getD x 0 ∨ (O'.getD x 0 = c ∧ Rch n B i x)
  rk : ∀ x, x < n → RchK n B s i x → O'.getD x 0 = c
  rows : ∀ z y, z < a → z < n → y < n → RchK n B s i z → B z y = true → O'.getD y 0 = c
  row : ∀ y, y < b → y < n → RchK n B s i a → B a y = true → O'.getD y 0 = c
theorem SpI.start {n : Nat} {B : Nat → Nat → Bool} {c : Int} {i : Nat} {O : List Int} (hl : O.length = n) (hi : i < n) : SpI n B c i O 0 0 0 (O.set i c) where
  len := by simpa using hl
  all x hx := by
    rw [getD_set (by omega)]
    by_cases e : x = i
    · subst e; rw [if_pos rfl]; exact .inr ⟨rfl, .refl⟩
    · rw [if_neg e]; exact .inl rfl
  rk x hx hr := by
    rw [RchK] at hr; subst hr
    rw [getD_set (by omega), if_pos rfl]
  rows z y h := by omega
  row y h := by omega
theorem SpI.skip {n : Nat} {B : Nat → Nat → Bool} {c : Int} {i s a b : Nat} {O O' : List Int} (h : SpI n B c i O s a b O') (ha : a < n) (hn : ¬ (O'.getD a 0 = c ∧ B a b = true)) : SpI n B c i O s a (b + 1) O' := by
  refine ⟨h.len, h.all, h.rk, h.rows, fun y hy hyn hr hb => ?_⟩
  rcases Nat.lt_succ_iff_lt_or_eq.1 hy with g | rfl
  · exact h.row y g hyn hr hb
  · exact absurd ⟨h.rk a ha hr, hb⟩ hn
theorem SpI.put {n : Nat} {B : Nat → Nat → Bool} {c : Int} {i s a b : Nat} {O O' : List Int} (hr : ∀ x, x < n → O.getD x 0 < c) (h : SpI n B c i O s a b O') (ha : a < n) (hb : b < n) (h1 : O'.getD a 0 = c) (h2 : B a b = true) : SpI n B c i O s a (b + 1) (O'.set b c) := by
  have hl := h.len
  have g : ∀ x, (O'.set b c).getD x 0 = if x = b then c else O'.getD x 0 := fun x => getD_set (by omega)
  have ra : Rch n B i a := by
    rcases h.all a ha with e | e
    · have := hr a ha; omega
    · exact e.2
  have hk : ∀ x, O'.getD x 0 = c → (O'.set b c).getD x 0 = c := fun x e => by
    rw [g]; split
    · rfl
    · exact e
  refine ⟨by simpa using hl, fun x hx => ?_, fun x hx hr => hk x (h.rk x hx hr), fun z y h3 h4 h5 h6 h7 => hk y (h.rows z y h3 h4 h5 h6 h7), fun y hy hyn h3 h4 => ?_⟩
  · rw [g]
    by_cases e : x = b
    · subst e; rw [if_pos rfl]; exact .inr ⟨rfl, .tail ra ha hb h2⟩
    · rw [if_neg e]; exact h.all x hx
  · rcases Nat.lt_succ_iff_lt_or_eq.1 hy with k | rfl
    · exact hk y (h.row y k hyn h3 h4)
    · rw [g, if_pos rfl]
theorem SpI.next {n : Nat} {B : Nat → Nat → Bool} {c : Int} {i s a b : Nat} {O O' : List Int} (h : SpI n B c i O s a b O') (hb : n ≤ b) : SpI n B c i O s (a + 1) 0 O' := by
  refine ⟨h.len, h.all, h.rk, fun z y h1 h2 h3 h4 h5 => ?_, fun y hy => by omega⟩
  rcases Nat.lt_succ_iff_lt_or_eq.1 h1 with g | rfl
  · exact h.rows z y g h2 h3 h4 h5
  · exact h.row y (by omega) h3 h4 h5
theorem SpI.round {n : Nat} {B : Nat → Nat → Bool} {c : Int} {i s a b : Nat} {O O' : List Int} (h : SpI n B c i O s a b O') (ha : n ≤ a) : SpI n B c i O (s + 1) 0 0 O' := by
  refine ⟨h.len, h.all, fun x hx hr => ?_, fun z y h1 => by omega, fun y h1 => by omega⟩
  rcases hr with hr | ⟨y, h1, h2, h3, h4⟩
  · exact h.rk x hx hr
  · exact h.rows y x (by omega) h1 h2 h3 h4
theorem SpI.newL {n : Nat} {B : Nat → Nat → Bool} {c : Int} {i a b : Nat} {O O' : List Int} (hi : i < n) (h : SpI n B c i O n a b O') : NewL n B c i O O' where
  len := h.len
  new x hx hr := h.rk x hx (rch_bound hi hr)
  old x hx hr _ := by
    rcases h.all x hx with e | e
    · exact e
    · exact absurd e.2 hr
  neg x hx hr h0 := by
    rcases h.all x hx with e | e
    · omega
    · exact absurd e.2 hr
open Classical in
theorem PartL.ex {n : Nat} {B : Nat → Nat → Bool} (hs : ∀ x y, x < n → y < n → B x y = true → B y x = true) : ∀ i, i ≤ n → ∃ c O, PartL n B i c O
  | 0, _ => ⟨0, _, .zero n B⟩
  | i + 1, hi => by
    obtain ⟨c, O, h⟩ := PartL.ex hs i (by omega)
    by_cases h0 : 0 ≤ O.getD i 0
    · exact ⟨c, O, h.skip h0⟩
    · have e : ∀ x, x < n → ((List.range n).map fun x => if Rch n B i x then c else O.getD x 0).getD x 0 = if Rch n B i x then c else O.getD x 0 := by
        intro x hx
        simp [hx]
      refine ⟨c + 1, _, h.step hs (by omega) (by omega) (O' := (List.range n).map fun x => if Rch n B i x then c else O.getD x 0) ⟨by simp, fun x hx hr => ?_, fun x hx hr _ => ?_, fun x hx hr h1 => ?_⟩⟩
      · rw [e x hx, if_pos hr]
      · rw [e x hx, if_neg hr]
      · rw [e x hx, if_neg hr]; exact h1
theorem comp_ok {n : Nat} {B : Nat → Nat → Bool} (hs : ∀ x y, x < n → y < n → B x y = true → B y x = true) : CompL n B (comp n B) := by
  obtain ⟨c, O, h⟩ := PartL.ex hs n (Nat.le_refl _)
  exact (h.final (Nat.le_refl _)).comp
end Go.Sh

/-
  Contracts: is it a weight matrix? Of the reference and of the program.
-/
namespace Go.Sh
open Go Go.Proofs

def WM (M : List (List Int)) : Prop := (1 ≤ M.length ∧ M.length ≤ 8) ∧ (∀ i, i < M.length → (mrow M i).length = M.length) ∧ (∀ i k, i < M.length → k < M.length → (-1000 ≤ mat M i k ∧ mat M i k ≤ 1000) ∧ mat M i k = mat M k i) ∧ ∀ i, i < M.length → mat M i i = 0
open Classical in
noncomputable def isWM (M : List (List Int)) : Bool := decide (WM M)
open Classical in
theorem isWM_f {M : List (List Int)} (h : ¬ WM M) : isWM M = false := decide_eq_false h
open Classical in
theorem isWM_t {M : List (List Int)} (h : WM M) : isWM M = true := decide_eq_true h

theorem inR_not {x a b : Int} (h : inR x a b = false) : ¬ (a ≤ x ∧ x ≤ b) := by
  rintro ⟨h1, h2⟩
  rw [inR_tt h1 h2] at h
  cases h
theorem ints_get' {L : List Int} {k n : Nat} (hl : L.length = n) (h : k < n) : (ints L)[k]? = some (.val (.int .i64 (L.getD k 0))) := ints_get (by omega)

set_option maxHeartbeats 4000000 in
theorem Tryz.specIsWM_ok (M : List (List Int)) (hM : M.length ≤ 1048576) (hR : ∀ i, i < M.length → (mrow M i).length ≤ 1048576) : PCall Tryz.prog 33 [rr M] (.val (.bool (isWM M))) := by
  refine FCall.pcall (R := fun r _ => r = .val (.bool (isWM M))) ?_ 0 (by rintro r H rfl; exact zg)
  refine FCall.of_body Tryz.func33 rfl (by kernel_rfl) (by simp [Tryz.ntmps33]) ?_
  refine SW_of_vc Tryz.mixed _ _ _ (by kernel_rfl) ?_
  simp (disch := omega) only [go_sem, rr_eq]
  refine LoopW.loop (fun i : Nat => ⟨ofL [(0, rr M), (3, .val (.int .i64 i))], hp [] 0⟩) (fun i => i ≤ M.length ∧ ∀ x, x < i → (mrow M x).length = M.length) (fun i => M.length - i) 0 ⟨by omega, by intro x h; omega⟩ (Wk.of (by simp only [go_sem, ↓List.forall_mem_cons, List.not_mem_nil, false_implies, implies_true, and_true, true_and, and_self, ri_eq, Int.natCast_add, Int.cast_ofNat_Int, rr_eq]; try simp) rfl) ?_
  rintro i ⟨hi, hii⟩
  refine SW_of_vc Tryz.mixed _ _ _ (by kernel_rfl) ?_
  by_cases hlt : i < M.length
  · by_cases hr : (mrow M i).length = M.length
    · simp (disch := omega) only [go_sem, rr_eq, rows_get, hr]
      refine ⟨i + 1, ⟨by omega, fun x hx => ?_⟩, by omega, Wk.of (by simp only [go_sem, ↓List.forall_mem_cons, List.not_mem_nil, false_implies, implies_true, and_true, true_and, and_self, ri_eq, Int.natCast_add, Int.cast_ofNat_Int, rr_eq]; try simp) rfl⟩
      rcases Nat.lt_succ_iff_lt_or_eq.mp hx with h | rfl
      · exact hii x h
      · exact hr
    · have hri := hR i hlt
      simp (disch := omega) only [go_sem, rr_eq, rows_get]
      exact Fin.val (by rw [isWM_f (fun h => hr (h.2.1 i hlt))])
  · obtain rfl : i = M.length := by omega
    simp (disch := omega) only [go_sem, rr_eq]
    refine LoopW.loop (fun i : Nat => ⟨ofL [(0, rr M), (4, .val (.int .i64 i))], hp [] 0⟩) (fun i => i ≤ M.length ∧ ∀ x k, x < i → k < M.length → (-1000 ≤ mat M x k ∧ mat M x k ≤ 1000) ∧ mat M x k = mat M k x ∧ (x = k → mat M x k = 0)) (fun i => M.length - i) 0 ⟨by omega, by intro x k h; omega⟩ (Wk.of (by simp only [go_sem, ↓List.forall_mem_cons, List.not_mem_nil, false_implies, implies_true, and_true, true_and, and_self, ri_eq, Int.natCast_add, Int.cast_ofNat_Int, rr_eq]; try simp) rfl) ?_
    rintro i ⟨hi1, hi2⟩
    refine SW_of_vc Tryz.mixed _ _ _ (by kernel_rfl) ?_
    by_cases hlt1 : i < M.length
    · simp (disch := omega) only [go_sem, rr_eq]
      refine LoopW.loop (fun k : Nat => ⟨ofL [(0, rr M), (4, .val (.int .i64 i)), (5, .val (.int .i64 k))], hp [] 0⟩) (fun k => k ≤ M.length ∧ ∀ y, y < k → (-1000 ≤ mat M i y ∧ mat M i y ≤ 1000) ∧ mat M i y = mat M y i ∧ (i = y → mat M i y = 0)) (fun k => M.length - k) 0 ⟨by omega, by intro y h; omega⟩ (Wk.of (by simp only [go_sem, ↓List.forall_mem_cons, List.not_mem_nil, false_implies, implies_true, and_true, true_and, and_self, ri_eq, Int.natCast_add, Int.cast_ofNat_Int, rr_eq]; try simp) rfl) ?_
      rintro k ⟨hk1, hk2⟩
      refine SW_of_vc Tryz.mixed _ _ _ (by kernel_rfl) ?_
      by_cases hlt2 : k < M.length
      · have hri := hii i hlt1
        have hrk := hii k hlt2
        have g1 : (ints (mrow M i))[k]? = some (.val (.int .i64 (mat M i k))) := ints_get' hri hlt2
        have g2 : (ints (mrow M k))[i]? = some (.val (.int .i64 (mat M k i))) := ints_get' hrk hlt1
        obtain ⟨a, ha⟩ : ∃ a, mat M i k = a := ⟨_, rfl⟩
        obtain ⟨b, hb⟩ : ∃ b, mat M k i = b := ⟨_, rfl⟩
        rw [ha] at g1
        rw [hb] at g2
        have w := Tryz.l1In_ok a (-1000) 1000
        rcases Bool.eq_false_or_eq_true (inR a (-1000) 1000) with h1 | h1
        · obtain ⟨r1, r2⟩ := inR_of h1
          rw [h1] at w
          by_cases h2 : a = b
          · by_cases h3 : i = k
            · by_cases h4 : a = 0
              · simp (disch := omega) only [go_sem, rr_eq, rows_get, hri, hrk, g1, g2]
                refine w.callDV 0 (z6 (z8) (z6 (z8) (z6 (z8) z7))) ?_
                simp (disch := omega) only [go_sem, rr_eq, rows_get, hri, hrk, g1, g2]
                refine ⟨k + 1, ⟨by omega, fun y hy => ?_⟩, by omega, Wk.of (by simp only [go_sem, ↓List.forall_mem_cons, List.not_mem_nil, false_implies, implies_true, and_true, true_and, and_self, ri_eq, Int.natCast_add, Int.cast_ofNat_Int, rr_eq]; try simp) rfl⟩
                rcases Nat.lt_succ_iff_lt_or_eq.mp hy with h | rfl
                · exact hk2 y h
                · rw [ha, hb]; exact ⟨⟨r1, r2⟩, h2, fun _ => h4⟩
              · simp (disch := omega) only [go_sem, rr_eq, rows_get, hri, hrk, g1, g2]
                refine w.callDV 0 (z6 (z8) (z6 (z8) (z6 (z8) z7))) ?_
                simp (disch := omega) only [go_sem, rr_eq, rows_get, hri, hrk, g1, g2]
                exact Fin.val (by rw [isWM_f (fun h => h4 (by have := h.2.2.2 i hlt1; rw [← ha, ← h3]; exact this))])
            · simp (disch := omega) only [go_sem, rr_eq, rows_get, hri, hrk, g1, g2]
              refine w.callDV 0 (z6 (z8) (z6 (z8) (z6 (z8) z7))) ?_
              simp (disch := omega) only [go_sem, rr_eq, rows_get, hri, hrk, g1, g2]
              refine ⟨k + 1, ⟨by omega, fun y hy => ?_⟩, by omega, Wk.of (by simp only [go_sem, ↓List.forall_mem_cons, List.not_mem_nil, false_implies, implies_true, and_true, true_and, and_self, ri_eq, Int.natCast_add, Int.cast_ofNat_Int, rr_eq]; try simp) rfl⟩
              rcases Nat.lt_succ_iff_lt_or_eq.mp hy with h | rfl
              · exact hk2 y h
              · rw [ha, hb]; exact ⟨⟨r1, r2⟩, h2, fun e => absurd e h3⟩
          · simp (disch := omega) only [go_sem, rr_eq, rows_get, hri, hrk, g1, g2]
            refine w.callDV 0 (z6 (z8) (z6 (z8) (z6 (z8) z7))) ?_
            simp (disch := omega) only [go_sem, rr_eq, rows_get, hri, hrk, g1, g2]
            exact Fin.val (by rw [isWM_f (fun h => h2 (by have := (h.2.2.1 i k hlt1 hlt2).2; rw [ha, hb] at this; exact this))])
        · rw [h1] at w
          simp (disch := omega) only [go_sem, rr_eq, rows_get, hri, hrk, g1, g2]
          refine w.callDV 0 (z6 (z8) (z6 (z8) (z6 (z8) z7))) ?_
          simp (disch := omega) only [go_sem, rr_eq]
          exact Fin.val (by rw [isWM_f (fun h => inR_not h1 (by have := (h.2.2.1 i k hlt1 hlt2).1; rw [ha] at this; exact this))])
      · obtain rfl : k = M.length := by omega
        simp (disch := omega) only [go_sem, rr_eq]
        refine ⟨i + 1, ⟨by omega, fun x y hx hy => ?_⟩, by omega, Wk.of (by simp only [go_sem, ↓List.forall_mem_cons, List.not_mem_nil, false_implies, implies_true, and_true, true_and, and_self, ri_eq, Int.natCast_add, Int.cast_ofNat_Int, rr_eq]; try simp) rfl⟩
        rcases Nat.lt_succ_iff_lt_or_eq.mp hx with h | rfl
        · exact hi2 x y h hy
        · exact hk2 y hy
    · obtain rfl : i = M.length := by omega
      have w := Tryz.l1In_ok (M.length : Int) 1 8
      rcases Bool.eq_false_or_eq_true (inR (M.length : Int) 1 8) with h1 | h1
      · obtain ⟨r1, r2⟩ := inR_of h1
        rw [h1] at w
        simp (disch := omega) only [go_sem, rr_eq]
        refine w.callV 0 (z6 (z8) (z6 (z8) (z6 (z8) z7))) ?_
        simp (disch := omega) only [go_sem, rr_eq]
        exact Fin.val (by rw [isWM_t ⟨⟨by omega, by omega⟩, hii, fun x y hx hy => ⟨(hi2 x y hx hy).1, (hi2 x y hx hy).2.1⟩, fun x hx => (hi2 x x hx hx).2.2 rfl⟩])
      · rw [h1] at w
        simp (disch := omega) only [go_sem, rr_eq]
        refine w.callV 0 (z6 (z8) (z6 (z8) (z6 (z8) z7))) ?_
        simp (disch := omega) only [go_sem, rr_eq]
        exact Fin.val (by rw [isWM_f (fun h => inR_not h1 (by have := h.1; omega))])

set_option maxHeartbeats 4000000 in
theorem Tryz.implIsWM_ok (M : List (List Int)) (hM : M.length ≤ 1048576) (hR : ∀ i, i < M.length → (mrow M i).length ≤ 1048576) : PCall Tryz.prog 34 [rr M] (.val (.bool (isWM M))) := by
  refine FCall.pcall (R := fun r _ => r = .val (.bool (isWM M))) ?_ 0 (by rintro r H rfl; exact zg)
  refine FCall.of_body Tryz.func34 rfl (by kernel_rfl) (by simp [Tryz.ntmps34]) ?_
  refine SW_of_vc Tryz.mixed _ _ _ (by kernel_rfl) ?_
  have w := Tryz.within_ok (M.length : Int) 1 8
  rcases Bool.eq_false_or_eq_true (inR (M.length : Int) 1 8) with hn | hn
  · obtain ⟨n1, n2⟩ := inR_of hn
    rw [hn] at w
    simp (disch := omega) only [go_sem, rr_eq]
    refine w.callV 0 (z6 (z8) (z6 (z8) (z6 (z8) z7))) ?_
    simp (disch := omega) only [go_sem, rr_eq]
    refine LoopW.loop (fun i : Nat => ⟨ofL [(0, rr M), (11, rr M), (12, .val (.int .i64 M.length)), (13, .val (.int .i64 i))], hp [] 0⟩) (fun i => i ≤ M.length ∧ ∀ x, x < i → (mrow M x).length = M.length ∧ mat M x x = 0 ∧ ∀ y, y < x → (-1000 ≤ mat M x y ∧ mat M x y ≤ 1000) ∧ mat M y x = mat M x y) (fun i => M.length - i) 0 ⟨by omega, by intro x h; omega⟩ (Wk.of (by simp only [go_sem, ↓List.forall_mem_cons, List.not_mem_nil, false_implies, implies_true, and_true, true_and, and_self, ri_eq, Int.natCast_add, Int.cast_ofNat_Int, rr_eq]; try simp) rfl) ?_
    rintro i ⟨hi, hii⟩
    refine SW_of_vc Tryz.mixed _ _ _ (by kernel_rfl) ?_
    by_cases hlt : i < M.length
    · have hrm := hR i hlt
      by_cases hr : (mrow M i).length = M.length
      · have g0 : (ints (mrow M i))[i]? = some (.val (.int .i64 (mat M i i))) := ints_get' hr hlt
        by_cases hd : mat M i i = 0
        · rw [hd] at g0
          simp (disch := omega) only [go_sem, rr_eq, rows_get, hr, g0]
          have hlt' : ((mrow M i).take i).length = i := by simp; omega
          refine LoopW.loop (fun k : Nat => ⟨ofL [(0, rr M), (3, .val (.int .i64 i)), (11, rr M), (12, .val (.int .i64 M.length)), (13, .val (.int .i64 i)), (32, .row i false ((ints (mrow M i)).take i)), (33, .val (.int .i64 i)), (34, .val (.int .i64 k))], hp [] 0⟩)
            (fun k => k ≤ i ∧ ∀ y, y < k → (-1000 ≤ mat M i y ∧ mat M i y ≤ 1000) ∧ mat M y i = mat M i y) (fun k => i - k) 0 ⟨by omega, by intro y h; omega⟩ (Wk.of (by simp only [go_sem, ↓List.forall_mem_cons, List.not_mem_nil, false_implies, implies_true, and_true, true_and, and_self, ri_eq, Int.natCast_add, Int.cast_ofNat_Int, rr_eq]; try simp) rfl) ?_
          rintro k ⟨hk, hkk⟩
          refine SW_of_vc Tryz.mixed _ _ _ (by kernel_rfl) ?_
          by_cases hki : k < i
          · have hrk := (hii k hki).1
            have g1 : ((ints (mrow M i)).take i)[k]? = some (.val (.int .i64 (mat M i k))) := by
              rw [List.getElem?_take, if_pos hki]; exact ints_get' hr (by omega)
            have g2 : (ints (mrow M k))[i]? = some (.val (.int .i64 (mat M k i))) := ints_get' hrk hlt
            obtain ⟨a, ha⟩ : ∃ a, mat M i k = a := ⟨_, rfl⟩
            obtain ⟨b, hb⟩ : ∃ b, mat M k i = b := ⟨_, rfl⟩
            rw [ha] at g1
            rw [hb] at g2
            have w2 := Tryz.within_ok a (-1000) 1000
            rcases Bool.eq_false_or_eq_true (inR a (-1000) 1000) with h1 | h1
            · obtain ⟨r1, r2⟩ := inR_of h1
              rw [h1] at w2
              by_cases h2 : b = a
              · simp (disch := omega) only [go_sem, rr_eq, rows_get, hrk, g1, g2]
                refine w2.callV 0 (z6 (z8) (z6 (z8) (z6 (z8) z7))) ?_
                simp (disch := omega) only [go_sem, rr_eq, rows_get, hrk, g1, g2]
                refine ⟨k + 1, ⟨by omega, fun y hy => ?_⟩, by omega, Wk.of (by simp only [go_sem, ↓List.forall_mem_cons, List.not_mem_nil, false_implies, implies_true, and_true, true_and, and_self, ri_eq, Int.natCast_add, Int.cast_ofNat_Int, rr_eq]; try simp) rfl⟩
                rcases Nat.lt_succ_iff_lt_or_eq.mp hy with h | rfl
                · exact hkk y h
                · rw [ha, hb]; exact ⟨⟨r1, r2⟩, h2⟩
              · simp (disch := omega) only [go_sem, rr_eq, rows_get, hrk, g1, g2]
                refine w2.callV 0 (z6 (z8) (z6 (z8) (z6 (z8) z7))) ?_
                simp (disch := omega) only [go_sem, rr_eq, rows_get, hrk, g1, g2]
                exact Fin.val (by rw [isWM_f (fun h => h2 (by have := (h.2.2.1 k i (by omega) hlt).2; rw [ha, hb] at this; exact this))])
            · rw [h1] at w2
              simp (disch := omega) only [go_sem, rr_eq, rows_get, hrk, g1, g2]
              refine w2.callV 0 (z6 (z8) (z6 (z8) (z6 (z8) z7))) ?_
              simp (disch := omega) only [go_sem, rr_eq]
              exact Fin.val (by rw [isWM_f (fun h => inR_not h1 (by have := (h.2.2.1 i k hlt (by omega)).1; rw [ha] at this; exact this))])
          · obtain rfl : k = i := by omega
            simp (disch := omega) only [go_sem, rr_eq]
            refine ⟨k + 1, ⟨by omega, fun x hx => ?_⟩, by omega, Wk.of (by simp only [go_sem, ↓List.forall_mem_cons, List.not_mem_nil, false_implies, implies_true, and_true, true_and, and_self, ri_eq, Int.natCast_add, Int.cast_ofNat_Int, rr_eq]; try simp) rfl⟩
            rcases Nat.lt_succ_iff_lt_or_eq.mp hx with h | rfl
            · exact hii x h
            · exact ⟨hr, hd, hkk⟩
        · obtain ⟨d, hd'⟩ : ∃ d, mat M i i = d := ⟨_, rfl⟩
          rw [hd'] at g0 hd
          simp (disch := omega) only [go_sem, rr_eq, rows_get, hr, g0]
          exact Fin.val (by rw [isWM_f (fun h => hd (by rw [← hd']; exact h.2.2.2 i hlt))])
      · simp (disch := omega) only [go_sem, rr_eq, rows_get]
        exact Fin.val (by rw [isWM_f (fun h => hr (h.2.1 i hlt))])
    · obtain rfl : i = M.length := by omega
      simp (disch := omega) only [go_sem, rr_eq]
      refine Fin.val ?_
      rw [isWM_t ⟨⟨by omega, by omega⟩, fun x hx => (hii x hx).1, fun x y hx hy => ?_, fun x hx => (hii x hx).2.1⟩]
      rcases Nat.lt_trichotomy y x with h | h | h
      · obtain ⟨q1, q2⟩ := (hii x hx).2.2 y h
        exact ⟨q1, q2.symm⟩
      · subst h
        have := (hii y hy).2.1
        exact ⟨by omega, rfl⟩
      · obtain ⟨q1, q2⟩ := (hii y hy).2.2 x h
        exact ⟨by omega, q2⟩
  · rw [hn] at w
    simp (disch := omega) only [go_sem, rr_eq]
    refine w.callV 0 (z6 (z8) (z6 (z8) (z6 (z8) z7))) ?_
    simp (disch := omega) only [go_sem, rr_eq]
    exact Fin.val (by rw [isWM_f (fun h => inR_not hn (by have := h.1; omega))])
end Go.Sh

/-
  What comes in as a matrix: its measures.
-/
namespace Go.Sh
open Go Go.Proofs

end Go.Sh

/-
  Contracts: a square of zeros; the components of a graph of positive weights. Of the program.
-/
namespace Go.Sh
open Go Go.Proofs

def zs (n : Nat) : List (List Int) := List.replicate n (List.replicate n 0)
theorem zs_length (n : Nat) : (zs n).length = n := by simp [zs]
theorem zs_row {n i : Nat} (h : i < n) : mrow (zs n) i = List.replicate n 0 := by simp [zs, mrow, h]
theorem zs_at {n i k : Nat} : mat (zs n) i k = 0 := by
  simp only [zs, mat, mrow, List.getD_eq_getElem?_getD, List.getElem?_replicate]
  by_cases h : i < n
  · by_cases h2 : k < n <;> simp [h, h2]
  · simp [h]
def outerQ (n k : Nat) : List SV := (List.range n).map fun i => if i < k then .own (i + 1) 0 n n 1 true else .val (.slice none 0 0)
theorem outerQ_length (n k : Nat) : (outerQ n k).length = n := by simp [outerQ]
theorem outerQ_zero (n : Nat) : outerQ n 0 = List.replicate n (.val (.slice none 0 0)) := by
  apply List.ext_getElem <;> simp [outerQ]
theorem outerQ_get {n k i : Nat} (h : i < n) : (outerQ n k)[i]? = some (if i < k then .own (i + 1) 0 n n 1 true else .val (.slice none 0 0)) := by
  simp only [outerQ, List.getElem?_map]
  rw [List.getElem?_range h]; rfl
theorem outerQ_set {n k : Nat} (h : k < n) : (outerQ n k).set k (.own (k + 1) 0 n n 1 true) = outerQ n (k + 1) := by
  apply List.ext_getElem?
  intro i
  by_cases hi : i < n
  · rw [outerQ_get hi, List.getElem?_set, outerQ_length, outerQ_get hi]
    by_cases hk : k = i
    · subst hk; simp [h]
    · by_cases h1 : i < k
      · simp [hk, h1, show i < k + 1 by omega]
      · simp [hk, h1, show ¬ i < k + 1 by omega]
  · rw [List.getElem?_eq_none (by rw [List.length_set, outerQ_length]; omega), List.getElem?_eq_none (by rw [outerQ_length]; omega)]
def HQ (n k : Nat) : Heap := ⟨fun x => if x = 0 then some ⟨outerQ n k, true⟩ else if x ≤ k then some ⟨ints (List.replicate n 0), true⟩ else none, k + 1⟩
def HQp (n k : Nat) : Heap := (HQ n k).push ⟨ints (List.replicate n 0), true⟩
theorem HQ_nb (n k : Nat) : (HQ n k).nb = k + 1 := rfl
theorem HQ_map (n k : Nat) : (HQ n k).map 0 = some ⟨outerQ n k, true⟩ := rfl
theorem HQp_map (n k : Nat) : (HQp n k).map 0 = some ⟨outerQ n k, true⟩ := by
  simp only [HQp, Heap.push, HQ]
  rw [if_neg (by omega)]
  rfl
theorem HQp_set {n k : Nat} : (HQp n k).set 0 (some ⟨outerQ n (k + 1), true⟩) = HQ n (k + 1) := by
  refine Heap.ext' (fun x => ?_) rfl
  simp only [HQp, HQ, Heap.push, Heap.set]
  by_cases h0 : x = 0
  · simp [h0]
  · by_cases h1 : x = k + 1
    · simp [h1]
    · by_cases h2 : x ≤ k
      · simp [h0, h1, h2, show x ≤ k + 1 by omega]
      · simp [h0, h1, h2, show ¬ x ≤ k + 1 by omega]
theorem HQ_zero (n : Nat) : HQ n 0 = hp [(0, ⟨List.replicate n (.val (.slice none 0 0)), true⟩)] 1 := by
  refine Heap.ext' (fun x => ?_) rfl
  simp only [HQ, hp, hmap, outerQ_zero]
  by_cases h0 : x = 0
  · simp [h0]
  · simp [h0]
theorem outerQ_nr (n k : Nat) : noRowL (outerQ n k) = true := by
  unfold outerQ
  generalize List.range n = l
  induction l with
  | nil => rfl
  | cons a l ih =>
    simp only [List.map_cons, noRowL, ih, Bool.and_true]
    split <;> rfl
theorem HQ_nr (n k : Nat) : nrHeap (HQ n k) := by
  intro b blk hb
  simp only [HQ] at hb
  split at hb
  · simp at hb; subst hb; exact outerQ_nr n k
  · split at hb
    · simp at hb; subst hb; exact noRowL_ints _
    · simp at hb
theorem HQ_res (n : Nat) : MatRes (mi (zs n)) (.own 0 0 n n 1 true) (HQ n n) := by
  have hl : (mi (zs n)).length = n := by rw [zo, zs_length]
  refine ⟨0, 0, n, true, _, by rw [hl], HQ_map n n, by rw [hl, outerQ_length]; omega, mi_vals _, fun i => i + 1, fun _ => 0, fun i i' _ _ h => by simpa using h, fun i _ => by simp, fun i hi => ?_⟩
  rw [hl] at hi
  have hr : rowAt (mi (zs n)) i = ints (List.replicate n 0) := by rw [mi_row (by rwa [zs_length]), zs_row hi]
  refine ⟨n, true, ⟨ints (List.replicate n 0), true⟩, ?_, ?_, ?_, ?_⟩
  · rw [hr, Nat.zero_add, outerQ_get hi, if_pos hi, zh, List.length_replicate]
  · simp only [HQ]
    rw [if_neg (by omega), if_pos (by omega)]
  · rw [hr]; simp
  · rw [hr]; simp

set_option maxHeartbeats 1000000 in
theorem Tryz.square_f (n : Nat) (hn : n ≤ 1048576) : FCall Tryz.prog 50 [.val (.int .i64 n)] (MatRes (mi (zs n))) := by
  refine FCall.of_body Tryz.func50 rfl (by kernel_rfl) (by simp [Tryz.ntmps50]) ?_
  refine SW_of_vc Tryz.mixed _ _ _ (by kernel_rfl) ?_
  simp (disch := omega) only [go_sem]
  refine LoopW.loop (fun k : Nat => ⟨ofL [(0, .val (.int .i64 n)), (3, .own 0 0 n n 1 true), (8, .val (.int .i64 n)), (9, .val (.int .i64 k))], HQ n k⟩) (fun k => k ≤ n) (fun k => n - k) 0 (by omega)
    (Wk.of (by simp only [go_sem, ↓List.forall_mem_cons, List.not_mem_nil, false_implies, implies_true, and_true, true_and, and_self, ri_eq, Int.natCast_add, Int.cast_ofNat_Int]; try simp) (by rw [HQ_zero])) ?_
  intro k hk
  have ho := outerQ_length n k
  refine SW_of_vc Tryz.mixed _ _ _ (by kernel_rfl) ?_
  by_cases hlt : k < n
  · have hos := outerQ_set hlt
    have e : (HQ n k).push ⟨ints (List.replicate n 0), true⟩ = HQp n k := rfl
    simp (disch := omega) only [go_sem, HQ_nb, e, HQp_map, ho, hos, HQp_set]
    exact ⟨k + 1, by omega, by omega, Wk.of (by simp only [go_sem, ↓List.forall_mem_cons, List.not_mem_nil, false_implies, implies_true, and_true, true_and, and_self, ri_eq, Int.natCast_add, Int.cast_ofNat_Int]; try simp) rfl⟩
  · obtain rfl : k = n := by omega
    simp (disch := omega) only [go_sem]
    exact ⟨HQ k k, ⟨rfl, fun _ => .inr rfl⟩, rfl, HQ_nr k _, HQ_res k⟩
theorem Tryz.square_one (n : Nat) (hn : n ≤ 1048576) : FCall Tryz.prog 50 [.val (.int .i64 n)] (MatOne (mi (zs n))) := (Tryz.square_f n hn).mat

def pB (M : List (List Int)) (x y : Nat) : Bool := decide (0 < mat M x y)
theorem WM.sym {M : List (List Int)} (h : WM M) : ∀ x y, x < M.length → y < M.length → pB M x y = true → pB M y x = true := by
  intro x y hx hy hb
  have := (h.2.2.1 x y hx hy).2
  rw [pB] at hb ⊢
  rw [← this]; exact hb
def vClos : SV := .clos (.func 77) [] [.optr 3 0, .optr 2 0, .optr 0 0, .optr 4 0]
def vHeap (M : List (List Int)) (O : List Int) (c : Int) : List (Nat × Blk) := [(4, ⟨[vClos], true⟩), (3, ⟨[.val (.int .i64 c)], true⟩), (2, ⟨[.own 1 0 M.length M.length 1 true], true⟩), (1, ⟨ints O, true⟩), (0, ⟨[rr M], true⟩)]

set_option maxHeartbeats 4000000 in
theorem Tryz.visit_ok {M : List (List Int)} (hw : WM M) {c : Int} (hc : 0 ≤ c) : ∀ (fu : Nat) (O : List Int) (i : Nat), O.length = M.length → i < M.length → O.getD i 0 < 0 → negs M.length O ≤ fu →
    CallS Tryz.prog 77 [.val (.int .i64 i), .optr 3 0, .optr 2 0, .optr 0 0, .optr 4 0] (hp (vHeap M O c) 5) (fun r H' => ∃ O', r = .tup [] ∧ H' = hp (vHeap M O' c) 5 ∧ DfsL M.length (pB M) c i O O')
  | 0, O, i, hl, hi, h0, hf => by have := negs_pos hi h0; omega
  | fu + 1, O, i, hl, hi, h0, hf => by
    have hln := hw.1
    have hri := hw.2.1 i hi
    refine CallS.of_body Tryz.func77 rfl (by kernel_rfl) (by simp [Tryz.ntmps77]) ?_
    refine SW_of_vc Tryz.mixed _ _ _ (by kernel_rfl) ?_
    rw [vHeap]
    simp (disch := omega) only [go_sem, rr_eq, hl, rows_get, hri]
    refine LoopW.loop (fun p : Nat × List Int => ⟨ofL [(1, .optr 3 0), (2, .optr 2 0), (3, .optr 0 0), (4, .optr 4 0), (15, .row M.length false (ints (mrow M i))), (16, .val (.int .i64 M.length)), (17, .val (.int .i64 p.1))], hp (vHeap M p.2 c) 5⟩)
      (fun p => p.1 ≤ M.length ∧ DfsK M.length (pB M) c i O p.1 p.2) (fun p => M.length - p.1) (0, O.set i c) ⟨by simp, .start hl hi h0⟩ (Wk.of (by simp only [go_sem, ↓List.forall_mem_cons, List.not_mem_nil, false_implies, implies_true, and_true, true_and, and_self, ri_eq, Int.natCast_add, Int.cast_ofNat_Int, rr_eq, hri]; try simp) rfl) ?_
    rintro ⟨k, O1⟩ ⟨hk, hd⟩
    simp only at hk hd
    have hl1 := hd.len
    refine SW_of_vc Tryz.mixed _ _ _ (by kernel_rfl) ?_
    rw [vHeap]
    by_cases hlt : k < M.length
    · have g1 : (ints (mrow M i))[k]? = some (.val (.int .i64 (mat M i k))) := ints_get' hri hlt
      have g2 : (ints O1)[k]? = some (.val (.int .i64 (O1.getD k 0))) := ints_get' hl1 hlt
      obtain ⟨a, ha⟩ : ∃ a, mat M i k = a := ⟨_, rfl⟩
      obtain ⟨b, hb⟩ : ∃ b, O1.getD k 0 = b := ⟨_, rfl⟩
      have hpb : pB M i k = decide (0 < a) := by rw [pB, ha]
      rw [ha] at g1
      rw [hb] at g2
      by_cases h1 : 0 < a
      · by_cases h2 : b < 0
        · have w := Tryz.visit_ok hw hc fu O1 k hl1 hlt (by omega) (by have := hd.negs hc hi h0; omega)
          rw [vHeap, vClos] at w
          simp (disch := omega) only [go_sem, vClos, g1, g2, hl1, zh]
          refine w.callX ?_
          rintro r H' ⟨O2, rfl, rfl, hd2⟩
          simp (disch := omega) only [go_sem]
          exact ⟨(k + 1, O2), ⟨hlt, hd.step hc hi hlt (by rw [hpb]; exact decide_eq_true h1) (by omega) hd2⟩, by show M.length - (k + 1) < M.length - k; omega, Wk.of (by simp only [go_sem, ↓List.forall_mem_cons, List.not_mem_nil, false_implies, implies_true, and_true, true_and, and_self, ri_eq, Int.natCast_add, Int.cast_ofNat_Int]; try simp) rfl⟩
        · simp (disch := omega) only [go_sem, vClos, g1, g2, hl1, zh]
          exact ⟨(k + 1, O1), ⟨hlt, hd.skip (fun _ => by omega)⟩, by show M.length - (k + 1) < M.length - k; omega, Wk.of (by simp only [go_sem, ↓List.forall_mem_cons, List.not_mem_nil, false_implies, implies_true, and_true, true_and, and_self, ri_eq, Int.natCast_add, Int.cast_ofNat_Int]; try simp) rfl⟩
      · simp (disch := omega) only [go_sem, vClos, g1, g2, hl1, zh]
        exact ⟨(k + 1, O1), ⟨hlt, hd.skip (fun h => by rw [hpb] at h; exact absurd (of_decide_eq_true h) h1)⟩, by show M.length - (k + 1) < M.length - k; omega, Wk.of (by simp only [go_sem, ↓List.forall_mem_cons, List.not_mem_nil, false_implies, implies_true, and_true, true_and, and_self, ri_eq, Int.natCast_add, Int.cast_ofNat_Int]; try simp) rfl⟩
    · simp (disch := omega) only [go_sem]
      exact ⟨O1, rfl, hd.final (by omega)⟩

def fillN (n k : Nat) : List Int := List.replicate k (-1) ++ List.replicate (n - k) 0
theorem fillN_zero (n : Nat) : fillN n 0 = List.replicate n 0 := by simp [fillN]
theorem fillN_length {n k : Nat} (h : k ≤ n) : (fillN n k).length = n := by simp [fillN]; omega
theorem fillN_set {n k : Nat} (h : k < n) : (fillN n k).set k (-1) = fillN n (k + 1) := by
  apply List.ext_getElem?
  intro i
  simp [fillN, List.getElem?_set, List.getElem?_append, List.getElem?_replicate]
  grind
theorem fillN_all (n : Nat) : fillN n n = List.replicate n (-1) := by simp [fillN]

theorem Fin.imp {R R' : SV → Heap → Prop} {r : SV} {H : Heap} (h : ∀ r H, R r H → R' r H) (f : Fin R r H) : Fin R' r H := by
  obtain ⟨H2, a, b, c, d⟩ := f
  exact ⟨H2, a, b, c, h _ _ d⟩
set_option maxHeartbeats 4000000 in
theorem Tryz.implPC_f (M : List (List Int)) (hM : M.length ≤ 1048576) (hR : ∀ i, i < M.length → (mrow M i).length ≤ 1048576) (hw : WM M) : FCall Tryz.prog 30 [rr M] (fun r H => CompL M.length (pB M) (comp M.length (pB M)) ∧ FlatRes M.length 1 (ints (comp M.length (pB M))) r H) := by
  have hln := hw.1
  have w1 := Tryz.implIsWM_ok M hM hR
  rw [isWM_t hw] at w1
  refine FCall.of_body Tryz.func30 rfl (by kernel_rfl) (by simp [Tryz.ntmps30]) ?_
  refine SW_of_vc Tryz.mixed _ _ _ (by kernel_rfl) ?_
  simp (disch := omega) only [go_sem, rr_eq]
  refine w1.callV 0 (z6 (zf) z7) ?_
  simp (disch := omega) only [go_sem, rr_eq]
  refine LoopW.loop (fun k : Nat => ⟨ofL [(1, .optr 0 0), (3, .optr 2 0), (15, .val (.int .i64 M.length)), (16, .val (.int .i64 k))], hp [(2, ⟨[.own 1 0 M.length M.length 1 true], true⟩), (1, ⟨ints (fillN M.length k), true⟩), (0, ⟨[rr M], true⟩)] 3⟩) (fun k => k ≤ M.length) (fun k => M.length - k) 0 (by omega)
    (Wk.of (by simp only [go_sem, ↓List.forall_mem_cons, List.not_mem_nil, false_implies, implies_true, and_true, true_and, and_self, ri_eq, Int.natCast_add, Int.cast_ofNat_Int]; try simp) (by rw [fillN_zero]; rfl)) ?_
  intro k hk
  have hfl := fillN_length hk
  refine SW_of_vc Tryz.mixed _ _ _ (by kernel_rfl) ?_
  by_cases hlt : k < M.length
  · have hfs := fillN_set hlt
    simp (disch := omega) only [go_sem, rr_eq, hfl, hfs]
    exact ⟨k + 1, by omega, by omega, Wk.of (by simp only [go_sem, ↓List.forall_mem_cons, List.not_mem_nil, false_implies, implies_true, and_true, true_and, and_self, ri_eq, Int.natCast_add, Int.cast_ofNat_Int]; try simp) rfl⟩
  · obtain rfl : k = M.length := by omega
    simp (disch := omega) only [go_sem, rr_eq, fillN_all]
    refine LoopW.loop (fun p : Nat × List Int × Int => ⟨ofL [(3, .optr 2 0), (5, .optr 3 0), (6, .optr 4 0), (25, .val (.int .i64 M.length)), (26, .val (.int .i64 p.1))], hp (vHeap M p.2.1 p.2.2) 5⟩)
      (fun p => p.1 ≤ M.length ∧ PartL M.length (pB M) p.1 p.2.2 p.2.1) (fun p => M.length - p.1) (0, List.replicate M.length (-1), 0) ⟨by simp, .zero _ _⟩ (Wk.of (by simp only [go_sem, ↓List.forall_mem_cons, List.not_mem_nil, false_implies, implies_true, and_true, true_and, and_self, ri_eq, Int.natCast_add, Int.cast_ofNat_Int]; try simp) rfl) ?_
    rintro ⟨i, O, c⟩ ⟨hi, hpl⟩
    simp only at hi hpl
    have hl := hpl.len
    have hc0 := hpl.c0
    have hci := hpl.ci
    refine SW_of_vc Tryz.mixed _ _ _ (by kernel_rfl) ?_
    rw [vHeap]
    by_cases hlt : i < M.length
    · have g2 : (ints O)[i]? = some (.val (.int .i64 (O.getD i 0))) := ints_get' hl hlt
      obtain ⟨b, hb⟩ : ∃ b, O.getD i 0 = b := ⟨_, rfl⟩
      rw [hb] at g2
      by_cases h2 : b < 0
      · have w := Tryz.visit_ok hw hc0 (negs M.length O) O i hl hlt (by omega) (Nat.le_refl _)
        rw [vHeap, vClos] at w
        simp (disch := omega) only [go_sem, vClos, g2, hl]
        refine w.callX ?_
        rintro r H' ⟨O2, rfl, rfl, hd⟩
        rw [vHeap]
        simp (disch := omega) only [go_sem, vClos]
        exact ⟨(i + 1, O2, c + 1), ⟨hlt, hpl.step hw.sym hlt (by omega) (hd.newL hw.sym hpl hlt (by omega))⟩, by show M.length - (i + 1) < M.length - i; omega, Wk.of (by simp only [go_sem, ↓List.forall_mem_cons, List.not_mem_nil, false_implies, implies_true, and_true, true_and, and_self, ri_eq, Int.natCast_add, Int.cast_ofNat_Int]; try simp) rfl⟩
      · simp (disch := omega) only [go_sem, vClos, g2, hl]
        exact ⟨(i + 1, O, c), ⟨hlt, hpl.skip (by omega)⟩, by show M.length - (i + 1) < M.length - i; omega, Wk.of (by simp only [go_sem, ↓List.forall_mem_cons, List.not_mem_nil, false_implies, implies_true, and_true, true_and, and_self, ri_eq, Int.natCast_add, Int.cast_ofNat_Int]; try simp) rfl⟩
    · have hC := hpl.final (by omega)
      have hc2 := hC.comp
      rw [← hC.eq] at hc2 ⊢
      simp (disch := omega) only [go_sem, vClos]
      exact Fin.imp (fun _ _ h => ⟨hc2, h⟩) (fin_ints hl.symm (by rw [hp_map]; simp only [zm]; rfl))
theorem Tryz.implPC_nil (M : List (List Int)) (hM : M.length ≤ 1048576) (hR : ∀ i, i < M.length → (mrow M i).length ≤ 1048576) (hw : ¬ WM M) : FCall Tryz.prog 30 [rr M] (fun r _ => r = .val (.slice none 0 0)) := by
  have w1 := Tryz.implIsWM_ok M hM hR
  rw [isWM_f hw] at w1
  refine FCall.of_body Tryz.func30 rfl (by kernel_rfl) (by simp [Tryz.ntmps30]) ?_
  refine SW_of_vc Tryz.mixed _ _ _ (by kernel_rfl) ?_
  simp (disch := omega) only [go_sem, rr_eq]
  refine w1.callV 0 (z6 (zf) z7) ?_
  simp (disch := omega) only [go_sem, rr_eq]
  exact Fin.val rfl
end Go.Sh

/-
  Squares of numbers, by their entries.
-/
namespace Go.Sh
open Go Go.Proofs

def SqI (n : Nat) (M : List (List Int)) : Prop := M.length = n ∧ ∀ i, i < n → (mrow M i).length = n
theorem SqI.zs (n : Nat) : SqI n (zs n) := ⟨zs_length n, fun i h => by rw [zs_row h]; simp⟩
theorem SqI.set {n : Nat} {M : List (List Int)} (h : SqI n M) (i c : Nat) (x : Int) : SqI n (mset M i c x) := ⟨by rw [mset_length, h.1], fun k hk => by rw [mset_row_length]; exact h.2 k hk⟩
theorem SqI.ext {n : Nat} {M M' : List (List Int)} (h : SqI n M) (h' : SqI n M') (e : ∀ x y, x < n → y < n → mat M x y = mat M' x y) : M = M' := by
  refine List.ext_getElem (h.1.trans h'.1.symm) fun i h1 h2 => ?_
  have hi : i < n := by rw [← h.1]; exact h1
  have e1 : M[i] = mrow M i := by simp [mrow, h1]
  have e2 : M'[i] = mrow M' i := by simp [mrow, h2]
  rw [e1, e2]
  exact list_ext ((h.2 i hi).trans (h'.2 i hi).symm) fun k hk => e i k hi (by rw [← h.2 i hi]; exact hk)
def genM (n : Nat) (f : Nat → Nat → Int) : List (List Int) := (List.range n).map fun x => (List.range n).map fun y => f x y
theorem genM_row {n : Nat} {f : Nat → Nat → Int} {x : Nat} (h : x < n) : mrow (genM n f) x = (List.range n).map fun y => f x y := by simp [mrow, genM, h]
theorem genM_sq (n : Nat) (f : Nat → Nat → Int) : SqI n (genM n f) := ⟨by simp [genM], fun i h => by rw [genM_row h]; simp⟩
theorem genM_at {n : Nat} {f : Nat → Nat → Int} {x y : Nat} (hx : x < n) (hy : y < n) : mat (genM n f) x y = f x y := by rw [mat, genM_row hx]; simp [hy]
end Go.Sh

/-
  Contracts: the rows and columns of some items. Of the program.
-/
namespace Go.Sh
open Go Go.Proofs

end Go.Sh

/-
  Contracts: the rows and columns of some items. Of the program and of the reference.
-/
namespace Go.Sh
open Go Go.Proofs

end Go.Sh

/-
  Contracts: the blocks of a partition. Of the reference.
-/
namespace Go.Sh
open Go Go.Proofs

end Go.Sh

/-
  FormatPartition: contracts.
-/
namespace Go.Sh
open Go Go.Proofs

theorem join_snoc (xs : List (List UInt8)) (y sep : List UInt8) (h : xs ≠ []) : Lib.join (xs ++ [y]) sep = Lib.join xs sep ++ sep ++ y := by
  cases xs with
  | nil => exact absurd rfl h
  | cons x r => rw [List.cons_append, Lib.join_cons, Lib.join_cons]; simp [Lib.joinTail]
structure BOk (M : List (List Int)) : Prop where
  ln : M.length ≤ 8
  row : ∀ i, (mrow M i).length ≤ 8
  it : ∀ i, i < M.length → ∀ y ∈ mrow M i, ∃ x : Nat, y = x ∧ x < 8
end Go.Sh

/-
  FormatScoring: contracts; the law walked.
-/
namespace Go.Sh
open Go Go.Proofs

end Go.Sh

/-
  Numbers read as text: plain law.
-/
namespace Go.Sh
open Go Go.Proofs

def dgt (c : UInt8) : Bool := decide (48 ≤ c.toNat ∧ c.toNat ≤ 57)
def dstep (a : Nat) (c : UInt8) : Nat := if dgt c = true then a * 10 + (c.toNat - 48) else a
def dval (s : List UInt8) : Nat := s.foldl dstep 0
def dcnt (s : List UInt8) : Nat := s.countP dgt
def nval (s : List UInt8) : Int := if s.head? = some 45 then -(dval s : Int) else dval s
def pint (s : List UInt8) : Option Int := if dcnt s ≤ 9 ∧ s.length ≤ 10 ∧ Lib.itoa (nval s) = s then some (nval s) else none

theorem dgt_of {k : Nat} (h : k < 10) : dgt (UInt8.ofNat (48 + k)) = true := by
  have e : (UInt8.ofNat (48 + k)).toNat = 48 + k := by rw [UInt8.toNat_ofNat']; omega
  simp only [dgt, e]; simp; omega
theorem dstep_of {a k : Nat} (h : k < 10) : dstep a (UInt8.ofNat (48 + k)) = a * 10 + k := by
  have e : (UInt8.ofNat (48 + k)).toNat = 48 + k := by rw [UInt8.toNat_ofNat']; omega
  rw [dstep, if_pos (dgt_of h), e]; omega
theorem decDigits_facts (u : Nat) : (∀ c ∈ Lib.decDigits u, dgt c = true) ∧ dval (Lib.decDigits u) = u ∧ Lib.decDigits u ≠ [] := by
  induction u using Nat.strongRecOn with
  | _ u ih =>
    by_cases h : u < 10
    · rw [Lib.decDigits, dif_pos h]
      refine ⟨fun c hc => ?_, ?_, by simp⟩
      · rw [List.mem_singleton] at hc; rw [hc]; exact dgt_of h
      · show dstep 0 _ = u
        rw [dstep_of h]; omega
    · rw [Lib.decDigits, dif_neg h]
      obtain ⟨h1, h2, h3⟩ := ih (u / 10) (by omega)
      refine ⟨fun c hc => ?_, ?_, by simp⟩
      · rcases List.mem_append.1 hc with hc | hc
        · exact h1 c hc
        · rw [List.mem_singleton] at hc; rw [hc]; exact dgt_of (by omega)
      · rw [dval, List.foldl_append, ← dval, h2]
        show dstep (u / 10) _ = u
        rw [dstep_of (by omega)]; omega
theorem dval_minus (s : List UInt8) : dval (45 :: s) = dval s := by
  show List.foldl dstep (dstep 0 45) s = _
  rw [show dstep 0 45 = 0 by decide]; rfl
theorem head_dgt {s : List UInt8} (h : ∀ c ∈ s, dgt c = true) : s.head? ≠ some 45 := by
  cases s with
  | nil => simp
  | cons c r =>
    intro e
    have := h c (by simp)
    simp only [List.head?_cons, Option.some.injEq] at e
    rw [e] at this
    exact absurd this (by decide)
theorem nval_itoa (n : Int) : nval (Lib.itoa n) = n := by
  unfold Lib.itoa
  split
  · obtain ⟨h1, h2, h3⟩ := decDigits_facts n.natAbs
    rw [nval, if_pos List.head?_cons, dval_minus, h2]; omega
  · obtain ⟨h1, h2, h3⟩ := decDigits_facts n.toNat
    rw [nval, if_neg (head_dgt h1), h2]; omega
theorem dval_lt_aux : ∀ (s : List UInt8) (a : Nat), List.foldl dstep a s < (a + 1) * 10 ^ dcnt s
  | [], a => by simp [dcnt]
  | c :: r, a => by
    have ih := dval_lt_aux r (dstep a c)
    rw [List.foldl_cons]
    refine Nat.lt_of_lt_of_le ih ?_
    unfold dstep dcnt
    rw [List.countP_cons]
    split
    · rename_i h
      have hc : c.toNat ≤ 57 := by
        simp only [dgt, decide_eq_true_eq] at h
        exact h.2
      show _ ≤ (a + 1) * 10 ^ (List.countP dgt r + 1)
      rw [Nat.pow_succ, ← Nat.mul_assoc, Nat.mul_right_comm]
      exact Nat.mul_le_mul_right _ (by omega)
    · exact Nat.mul_le_mul_left _ (Nat.pow_le_pow_right (by omega) (by omega))
theorem dval_lt (s : List UInt8) : dval s < 10 ^ dcnt s := by
  have := dval_lt_aux s 0
  simpa [dval] using this
theorem pow10_le {k m : Nat} (h : k ≤ m) : 10 ^ k ≤ 10 ^ m := Nat.pow_le_pow_right (by omega) h
theorem pint_some {s : List UInt8} {n : Int} (h : pint s = some n) : Lib.itoa n = s ∧ -999999999 ≤ n ∧ n ≤ 999999999 := by
  rw [pint] at h
  split at h
  · rename_i hh
    obtain ⟨h1, h2, h3⟩ := hh
    obtain rfl := Option.some.inj h
    refine ⟨h3, ?_⟩
    have h4 := dval_lt s
    have h5 := pow10_le h1
    unfold nval
    split <;> omega
  · cases h
theorem nDigits_le {u k : Nat} (hk : 1 ≤ k) (h : u < 10 ^ k) : Lib.nDigits u ≤ k := by
  induction k generalizing u with
  | zero => omega
  | succ k ih =>
    by_cases h1 : u < 10
    · rw [Lib.nDigits_small h1]; omega
    · rw [Lib.nDigits_big h1]
      rw [Nat.pow_succ] at h
      cases k with
      | zero => simp at h; omega
      | succ k =>
        have := ih (u := u / 10) (by omega) (by omega)
        omega
theorem dcnt_dgs {s : List UInt8} (h : ∀ c ∈ s, dgt c = true) : dcnt s = s.length := List.countP_eq_length.2 h
theorem itoa_shape (n : Int) (h0 : -999999999 ≤ n) (h1 : n ≤ 999999999) : dcnt (Lib.itoa n) ≤ 9 ∧ (Lib.itoa n).length ≤ 10 := by
  unfold Lib.itoa
  split
  · obtain ⟨g1, g2, g3⟩ := decDigits_facts n.natAbs
    have hl := Lib.decDigits_length n.natAbs
    have h9 := nDigits_le (u := n.natAbs) (k := 9) (by omega) (by omega)
    have hc := dcnt_dgs g1
    refine ⟨?_, ?_⟩
    · rw [dcnt, List.countP_cons, ← dcnt, hc]
      have : dgt 45 = false := by decide
      rw [this]; simp; omega
    · rw [List.length_cons]; omega
  · obtain ⟨g1, g2, g3⟩ := decDigits_facts n.toNat
    have hl := Lib.decDigits_length n.toNat
    have h9 := nDigits_le (u := n.toNat) (k := 9) (by omega) (by omega)
    have hc := dcnt_dgs g1
    omega
theorem pint_itoa {n : Int} (h0 : -999999999 ≤ n) (h1 : n ≤ 999999999) : pint (Lib.itoa n) = some n := by
  obtain ⟨a, b⟩ := itoa_shape n h0 h1
  rw [pint, nval_itoa, if_pos ⟨a, b, rfl⟩]
theorem pint_of {s : List UInt8} {n : Int} (h : Lib.itoa n = s) (h0 : -999999999 ≤ n) (h1 : n ≤ 999999999) : pint s = some n := by rw [← h]; exact pint_itoa h0 h1
theorem parse_dgs : ∀ (l : List UInt8) (a : Nat), (∀ c ∈ l, dgt c = true) → (a + 1) * 10 ^ l.length ≤ 1000000000 → Lib.parseUint10 a l = .ok (List.foldl dstep a l)
  | [], a, _, _ => rfl
  | c :: r, a, h, hb => by
    have hc := h c (by simp)
    have hc' := hc
    simp only [dgt, decide_eq_true_eq] at hc'
    have hp : 1 ≤ 10 ^ r.length := Nat.one_le_pow _ _ (by omega)
    rw [List.length_cons, Nat.pow_succ] at hb
    have hb2 : ((a * 10 + (c.toNat - 48)) + 1) * 10 ^ r.length ≤ 1000000000 := by
      refine Nat.le_trans ?_ hb
      rw [Nat.mul_comm (10 ^ r.length) 10, ← Nat.mul_assoc]
      exact Nat.mul_le_mul_right _ (by omega)
    have hs : a * 10 + (c.toNat - 48) + 1 ≤ 1000000000 := Nat.le_trans (Nat.le_mul_of_pos_right _ hp) hb2
    rw [Lib.parseUint10, if_pos hc', if_neg (by omega), if_neg (by omega), parse_dgs r _ (fun d hd => h d (by simp [hd])) hb2, List.foldl_cons]
    congr 2
    rw [dstep, if_pos hc]
theorem parseMag_dec (u : Nat) (h : u ≤ 999999999) : Lib.parseMag (Lib.decDigits u) = .ok u := by
  obtain ⟨g1, g2, g3⟩ := decDigits_facts u
  have hl := Lib.decDigits_length u
  have h9 := nDigits_le (u := u) (k := 9) (by omega) (by omega)
  rw [Lib.parseMag, if_neg g3, parse_dgs _ 0 g1 (by
    have := pow10_le (k := (Lib.decDigits u).length) (m := 9) (by omega)
    omega)]
  show Lib.NumEnd.ok (dval _) = _
  rw [g2]
theorem atoiAll_itoa {n : Int} (h0 : -999999999 ≤ n) (h1 : n ≤ 999999999) : Lib.atoiAll (Lib.itoa n) = .ok n := by
  unfold Lib.itoa
  split
  · show (match Lib.parseMag (if (45 : UInt8).toNat = 43 ∨ (45 : UInt8).toNat = 45 then Lib.decDigits n.natAbs else _) with | .syntax => _ | .range => _ | .ok u => _) = _
    rw [if_pos (by decide), parseMag_dec _ (by omega)]
    show (if ¬ (45 : UInt8).toNat = 45 ∧ _ then _ else if (45 : UInt8).toNat = 45 ∧ 9223372036854775808 < n.natAbs then _ else Lib.NumEnd.ok (if (45 : UInt8).toNat = 45 then -(n.natAbs : Int) else _)) = _
    rw [if_neg (by simp), if_neg (by omega), if_pos (by decide)]
    congr 1; omega
  · obtain ⟨g1, g2, g3⟩ := decDigits_facts n.toNat
    have hm := parseMag_dec n.toNat (by omega)
    generalize Lib.decDigits n.toNat = l at *
    cases l with
    | nil => exact absurd rfl g3
    | cons c r =>
      have hc := g1 c (by simp)
      simp only [dgt, decide_eq_true_eq] at hc
      unfold Lib.atoiAll
      simp only
      rw [if_neg (by omega), hm]
      simp only
      rw [if_neg (by omega), if_neg (by omega), if_neg (by omega)]
      congr 1; omega
theorem pint_nil : pint [] = none := by
  rw [pint, if_neg]
  rintro ⟨_, _, h⟩
  have e : Lib.itoa (nval []) = [48] := by
    show Lib.itoa 0 = _
    rw [Lib.itoa, if_neg (by decide), Lib.decDigits, dif_pos (by decide)]; decide
  rw [e] at h; cases h
theorem pint_none {s : List UInt8} (h : ∀ n, Lib.atoiAll s = .ok n → Lib.itoa n = s → -999999999 ≤ n → n ≤ 999999999 → False) : pint s = none := by
  cases hp : pint s with
  | none => rfl
  | some n =>
    obtain ⟨h1, h2, h3⟩ := pint_some hp
    exact (h n (by rw [← h1]; exact atoiAll_itoa h2 h3) h1 h2 h3).elim
end Go.Sh

/-
  Scorings read back from their text: plain law.
-/
namespace Go.Sh
open Go Go.Proofs

def sB (t : List UInt8) : Int := if 6 < t.length then (pint (t.drop 7)).getD 0 else 0
end Go.Sh

/-
  FormatMatrix: contracts; the law walked.
-/
namespace Go.Sh
open Go Go.Proofs

def up (M : List (List Int)) : Nat → List Int
  | 0 => [(M.length : Int)]
  | i + 1 => up M i ++ (mrow M i).drop (i + 1)
def txt (l : List Int) : List UInt8 := Lib.join (l.map Lib.itoa) [32]
theorem up_ne (M : List (List Int)) : ∀ i, up M i ≠ []
  | 0 => by simp [up]
  | i + 1 => by rw [up]; simp [up_ne M i]
theorem itoa_k {x : Int} (h : -1000 ≤ x ∧ x ≤ 1000) : (Lib.itoa x).length ≤ 502 := by
  rw [Lib.itoa]; split
  · have := decDigits_le x.natAbs
    simp; omega
  · have := decDigits_le x.toNat
    omega
theorem txt_le : ∀ {l : List Int}, (∀ y ∈ l, -1000 ≤ y ∧ y ≤ 1000) → (txt l).length ≤ 503 * l.length := by
  intro l
  have h2 : ∀ r : List Int, (∀ y ∈ r, -1000 ≤ y ∧ y ≤ 1000) → (Lib.joinTail [32] (r.map Lib.itoa)).length ≤ 503 * r.length := by
    intro r
    induction r with
    | nil => intro _; simp [Lib.joinTail]
    | cons y r ih =>
      intro h
      have := ih fun z hz => h z (by simp [hz])
      have h1 := itoa_k (h y (by simp))
      simp only [Lib.joinTail, List.map_cons, List.flatten_cons, List.length_append, List.length_cons, List.length_nil] at this ⊢
      omega
  cases l with
  | nil => intro _; simp [txt, Lib.join_nil]
  | cons x r =>
    intro h
    rw [txt, List.map_cons, Lib.join_cons]
    have h1 := itoa_k (h x (by simp))
    have := h2 r fun z hz => h z (by simp [hz])
    simp only [List.length_append, List.length_cons]
    omega
theorem row_it {M : List (List Int)} (h : WM M) {i : Nat} (hi : i < M.length) : ∀ y ∈ mrow M i, -1000 ≤ y ∧ y ≤ 1000 := by
  intro y hy
  obtain ⟨k, hk, rfl⟩ := List.getElem_of_mem hy
  have hl := h.2.1 i hi
  have := (h.2.2.1 i k hi (by omega)).1
  have e : mat M i k = (mrow M i)[k] := by rw [mat]; simp [hk]
  rw [e] at this; exact this
theorem up_it {M : List (List Int)} (h : WM M) : ∀ i, i ≤ M.length → (∀ y ∈ up M i, -1000 ≤ y ∧ y ≤ 1000) ∧ (up M i).length ≤ 1 + 8 * i
  | 0, _ => ⟨by intro y hy; simp [up] at hy; have := h.1; omega, by simp [up]⟩
  | i + 1, hi => by
    obtain ⟨h1, h2⟩ := up_it h i (by omega)
    have hl := h.2.1 i (by omega)
    have := h.1
    refine ⟨fun y hy => ?_, by rw [up, List.length_append, List.length_drop]; omega⟩
    rw [up] at hy
    rcases List.mem_append.1 hy with hy | hy
    · exact h1 y hy
    · exact row_it h (by omega) y (List.mem_of_mem_drop hy)
noncomputable def fmtM (M : List (List Int)) : List UInt8 := if isWM M = true then txt (up M M.length) else []
open Classical in
theorem isWM_cases (M : List (List Int)) : (WM M ∧ isWM M = true) ∨ isWM M = false := by
  by_cases h : WM M
  · exact .inl ⟨h, isWM_t h⟩
  · exact .inr (isWM_f h)
end Go.Sh

/-
  Rules as text: plain law.
-/
namespace Go.Sh
open Go Go.Proofs

def fnm : List (List UInt8) := [[110, 97, 109, 101], [116, 111, 107, 101, 110, 115], [115, 111, 117, 110, 100], [99, 105, 116, 121], [121, 101, 97, 114], [112, 104, 111, 110, 101]]
def fname (i : Nat) : List UInt8 := fnm.getD i []
def OkC (c : Con) : Prop := (∃ f : Nat, c.1 = f ∧ f < 6) ∧ 1 ≤ c.2.1 ∧ c.2.1 ≤ 1000
def opB (b : Bool) : List UInt8 := if b = true then [60] else [62, 61]
def fmtT (c : Con) : List UInt8 := fname c.1.toNat ++ opB c.2.2 ++ Lib.itoa c.2.1
def fmtRu (T : List Con) : List UInt8 := Lib.join (T.map fmtT) [44]
def orB : List UInt8 := [32, 111, 114, 32]
def fmtR (R : List (List Con)) : List UInt8 := if isVR R = true then Lib.join (R.map fmtRu) orB else []
theorem isVR_facts {R : List (List Con)} (h : isVR R = true) : (1 ≤ R.length ∧ R.length ≤ 3) ∧ ∀ T ∈ R, (1 ≤ T.length ∧ T.length ≤ 3) ∧ ∀ c ∈ T, OkC c := by
  rw [isVR, Bool.and_eq_true] at h
  have h1 := inR_of h.2
  refine ⟨by omega, fun T hT => ?_⟩
  have h2 := List.all_eq_true.1 h.1 T hT
  rw [okR, Bool.and_eq_true] at h2
  have h3 := inR_of h2.2
  refine ⟨by omega, fun c hc => ?_⟩
  obtain ⟨k, hk, rfl⟩ := List.getElem_of_mem hc
  have h4 := List.all_eq_true.1 h2.1 k (by simp [hk])
  have e : cg T k = T[k] := by simp [cg, hk]
  rw [okT, Bool.and_eq_true, Bool.and_eq_true, e] at h4
  have h5 := inR_of h4.1
  have h6 := inR_of h4.2.1
  exact ⟨⟨(T[k].1).toNat, by omega, by omega⟩, h6.1, h6.2⟩
theorem fname_no {f : Nat} (h : f < 6) : ∀ c ∈ fname f, 97 ≤ c.toNat := by
  have : f = 0 ∨ f = 1 ∨ f = 2 ∨ f = 3 ∨ f = 4 ∨ f = 5 := by omega
  rcases this with rfl | rfl | rfl | rfl | rfl | rfl <;> decide
theorem itoa_dgt {n : Int} (h : 0 ≤ n) : ∀ c ∈ Lib.itoa n, 48 ≤ c.toNat ∧ c.toNat ≤ 57 := by
  intro c hc
  rw [Lib.itoa, if_neg (by omega)] at hc
  have := (decDigits_facts n.toNat).1 c hc
  simpa [dgt] using this
theorem fmtT_no {c : Con} (h : OkC c) : (32 : UInt8) ∉ fmtT c ∧ (44 : UInt8) ∉ fmtT c := by
  obtain ⟨⟨f, hf, hf6⟩, h1, h2⟩ := h
  have key : ∀ x ∈ fmtT c, 46 ≤ x.toNat := fun x hx => by
    rw [fmtT, hf, Int.toNat_natCast] at hx
    rcases List.mem_append.1 hx with hx | hx
    · rcases List.mem_append.1 hx with hx | hx
      · have := fname_no hf6 x hx; omega
      · unfold opB at hx
        split at hx <;> simp at hx
        · subst hx; decide
        · rcases hx with rfl | rfl <;> decide
    · have := itoa_dgt (by omega) x hx; omega
  exact ⟨fun hm => absurd (key 32 hm) (by decide), fun hm => absurd (key 44 hm) (by decide)⟩
theorem fmtT_len {c : Con} (h : OkC c) : 1 ≤ (fmtT c).length ∧ (fmtT c).length ≤ 600 := by
  obtain ⟨⟨f, hf, hf6⟩, h1, h2⟩ := h
  have h3 := itoa_k (x := c.2.1) (by omega)
  have h4 : (fname f).length ≤ 6 := by
    have : f = 0 ∨ f = 1 ∨ f = 2 ∨ f = 3 ∨ f = 4 ∨ f = 5 := by omega
    rcases this with rfl | rfl | rfl | rfl | rfl | rfl <;> decide
  have h5 : 1 ≤ (opB c.2.2).length ∧ (opB c.2.2).length ≤ 2 := by unfold opB; split <;> decide
  rw [fmtT, hf, Int.toNat_natCast, List.length_append, List.length_append]; omega
theorem fmtRu_no {T : List Con} (h : ∀ c ∈ T, OkC c) : (32 : UInt8) ∉ fmtRu T := by
  have key : ∀ T : List Con, (∀ c ∈ T, OkC c) → (32 : UInt8) ∉ Lib.joinTail [44] (T.map fmtT) := by
    intro T
    induction T with
    | nil => intro _; simp [Lib.joinTail]
    | cons c T ih =>
      intro h hm
      have := ih fun d hd => h d (by simp [hd])
      have h1 := (fmtT_no (h c (by simp))).1
      simp only [Lib.joinTail, List.map_cons, List.flatten_cons, List.mem_append, List.mem_cons, List.not_mem_nil, or_false] at hm this
      rcases hm with (hm | hm) | hm
      · exact absurd hm (by decide)
      · exact h1 hm
      · exact this hm
  cases T with
  | nil => simp [fmtRu, Lib.join_nil]
  | cons c T =>
    rw [fmtRu, List.map_cons, Lib.join_cons]
    intro hm
    rcases List.mem_append.1 hm with hm | hm
    · exact (fmtT_no (h c (by simp))).1 hm
    · exact key T (fun d hd => h d (by simp [hd])) hm
theorem fmtRu_cut {T : List Con} (h0 : T ≠ []) (h : ∀ c ∈ T, OkC c) : cutL 44 (fmtRu T) = T.map fmtT := by
  cases T with
  | nil => exact absurd rfl h0
  | cons c T =>
    rw [fmtRu, List.map_cons]
    refine cutL_join fun q hq => ?_
    rw [← List.map_cons] at hq
    obtain ⟨d, hd, rfl⟩ := List.mem_map.1 hq
    exact (fmtT_no (h d hd)).2
theorem idx_no {a : UInt8} {sub : List UInt8} : ∀ {s : List UInt8}, a ∉ s → Lib.index s (a :: sub) = -1
  | [], _ => rfl
  | b :: s, h => by
    have ih := idx_no (a := a) (sub := sub) (s := s) fun hm => h (by simp [hm])
    have hb : (a == b) = false := by rw [beq_eq_false_iff_ne]; exact fun e => h (by simp [e])
    rw [Lib.index, ih]
    simp [List.isPrefixOf, hb]
theorem idx_app {a : UInt8} {sub q : List UInt8} : ∀ {p : List UInt8}, a ∉ p → Lib.index (p ++ (a :: sub) ++ q) (a :: sub) = p.length
  | [], _ => by
    have : (a :: sub).isPrefixOf (a :: (sub ++ q)) = true := by simp
    rw [List.nil_append, List.cons_append, Lib.index, if_pos this]; rfl
  | b :: p, h => by
    have ih := idx_app (a := a) (sub := sub) (q := q) (p := p) fun hm => h (by simp [hm])
    have hb : (a == b) = false := by rw [beq_eq_false_iff_ne]; exact fun e => h (by simp [e])
    have hp : (a :: sub).isPrefixOf (b :: (p ++ (a :: sub) ++ q)) = false := by simp [List.isPrefixOf, hb]
    rw [List.cons_append, List.cons_append, Lib.index, ih, hp]
    have : ((p.length : Int) == -1) = false := by rw [beq_eq_false_iff_ne]; omega
    rw [this]
    simp
end Go.Sh

/-
  Strings split and cut at longer separators; the names of the features: contracts.
-/
namespace Go.Sh
open Go Go.Proofs

def nmV : List SV := strs fnm
theorem nmV_load {i : Nat} (h : i < 6) : nmV[i]? = some (str (fname i)) := by
  have : i = 0 ∨ i = 1 ∨ i = 2 ∨ i = 3 ∨ i = 4 ∨ i = 5 := by omega
  rcases this with rfl | rfl | rfl | rfl | rfl | rfl <;> rfl
end Go.Sh
