/-
  Texts put together: FI1, FI2, N6, V1, PP1, CT1, CT2, PP2, V2, U1, U2, V3, FI3, FI4, CT3, CT4, DA8, T2, EParsePartition, EFnPartitions, LiftB. What each proves stands at its own head, with its conditions.
-/
import Derived.Test.YtkmckbjgffaieaaDoorZFnPartitions3
import Derived.Lib.IndexLaws

/-
  Numbers as text: contracts.
-/
namespace Go.Sh
set_option linter.unusedSimpArgs false
set_option linter.unusedVariables false
open Go Go.Proofs

theorem decDigits_le (u : Nat) : (Lib.decDigits u).length ≤ u / 2 + 1 := by
  induction u using Nat.strongRecOn with
  | _ u ih =>
    by_cases h : u < 10
    · rw [Lib.decDigits, dif_pos h]; simp
    · rw [Lib.decDigits, dif_neg h]
      have := ih (u / 10) (by omega)
      simp; omega
def digz (u : Nat) : List UInt8 := if u = 0 then [] else Lib.decDigits u
theorem digz_step {u : Nat} (h : u ≠ 0) : digz u = digz (u / 10) ++ [UInt8.ofNat (48 + u % 10)] := by
  rw [digz, if_neg h]
  by_cases h1 : u < 10
  · rw [Lib.decDigits, dif_pos h1, digz, if_pos (by omega), Nat.mod_eq_of_lt h1]; rfl
  · rw [Lib.decDigits, dif_neg h1, digz, if_neg (by omega)]
theorem digz_le (u : Nat) : (digz u).length ≤ u / 2 + 1 := by
  rw [digz]; split
  · simp
  · exact decDigits_le u
theorem itoa_le {n : Int} (n1 : -9223372036854775808 ≤ n) (n2 : n ≤ 9223372036854775807) : (Lib.itoa n).length ≤ 4611686018427387906 := by
  rw [Lib.itoa]; split
  · have := decDigits_le n.natAbs
    simp; omega
  · have := decDigits_le n.toNat
    omega
theorem itoa_eq (n : Int) (h : n ≠ 0) : Lib.itoa n = if n < 0 then 45 :: digz n.natAbs else digz n.natAbs := by
  rw [Lib.itoa]
  split
  · rw [digz, if_neg (by omega)]
  · rw [digz, if_neg (by omega)]; congr 1; omega
theorem abs_quo (m : Int) : (m.tdiv 10).natAbs = m.natAbs / 10 := by
  rcases Int.le_total 0 m with h | h
  · obtain ⟨k, rfl⟩ := Int.eq_ofNat_of_zero_le h
    have e : (k : Int).tdiv 10 = ((k / 10 : Nat) : Int) := (Int.ofNat_tdiv k 10).symm
    rw [e]; simp only [Int.natAbs_natCast]
  · obtain ⟨k, hk⟩ := Int.eq_ofNat_of_zero_le (a := -m) (by omega)
    obtain rfl : m = -(k : Int) := by omega
    have e : (k : Int).tdiv 10 = ((k / 10 : Nat) : Int) := (Int.ofNat_tdiv k 10).symm
    rw [Int.neg_tdiv, e]; omega
theorem quo_sign (m : Int) : (0 ≤ m → 0 ≤ m.tdiv 10) ∧ (m ≤ 0 → m.tdiv 10 ≤ 0) := by
  constructor
  · intro h; exact Int.tdiv_nonneg h (by omega)
  · intro h
    obtain ⟨k, hk⟩ := Int.eq_ofNat_of_zero_le (a := -m) (by omega)
    obtain rfl : m = -(k : Int) := by omega
    rw [Int.neg_tdiv]
    have : (0 : Int) ≤ (k : Int).tdiv 10 := Int.tdiv_nonneg (by omega) (by omega)
    omega
theorem abs_rem (m : Int) : (if m.tmod 10 < 0 then -(m.tmod 10) else m.tmod 10) = ((m.natAbs % 10 : Nat) : Int) := by
  rcases Int.le_total 0 m with h | h
  · obtain ⟨k, rfl⟩ := Int.eq_ofNat_of_zero_le h
    have e : (k : Int).tmod 10 = ((k % 10 : Nat) : Int) := (Int.ofNat_tmod k 10).symm
    rw [e, if_neg (by omega)]; simp
  · obtain ⟨k, hk⟩ := Int.eq_ofNat_of_zero_le (a := -m) (by omega)
    obtain rfl : m = -(k : Int) := by omega
    have e : (k : Int).tmod 10 = ((k % 10 : Nat) : Int) := (Int.ofNat_tmod k 10).symm
    rw [Int.neg_tmod, e]
    split <;> omega

theorem Tryd.itoaS_ok (x : Nat) (hx : x < 100) : PCall Tryd.prog 86 [.val (.int .i64 x)] (str (Lib.itoa x)) := by
  refine ⟨⟨_, Tryd.func86, rfl, rfl⟩, fun w vs hl _ => ?_⟩
  simp only [LRel, VRel] at hl
  obtain ⟨v, rest, rfl, rfl, rfl⟩ := hl
  refine (Tryd.strconv_Itoa_small x hx w).mono ?_
  rintro e w' ⟨rfl, rfl⟩
  refine ⟨_, rfl, RowKit.Below.refl _ _, ?_⟩
  simp only [VRel, Lib.itoa]
  rw [if_neg (by omega), Int.toNat_natCast]; rfl
theorem Tryd.implFIs_ok (x : Nat) (hx : x < 100) : PCall Tryd.prog 58 [.val (.int .i64 x)] (str (Lib.itoa x)) := by
  have h := Tryd.itoaS_ok x hx
  refine FCall.pcall (R := fun r _ => r = str (Lib.itoa x)) ?_ 0 (by rintro r H rfl; exact view_str)
  refine FCall.of_body Tryd.func58 rfl (by kernel_rfl) (by simp [Tryd.ntmps58]) ?_
  refine SW_of_vc Tryd.mixed _ _ _ (by kernel_rfl) ?_
  simp (disch := omega) only [Tryd.ntmps58, Tryd.results58, go_sem]
  refine h.callV 0 (viewL_cons_of (view_int) viewL_nil_of) ?_
  simp (disch := omega) only [Tryd.ntmps58, Tryd.results58, go_sem]
  exact Fin.val rfl
set_option maxHeartbeats 4000000 in
theorem Tryd.specFI_ok (n : Int) (n1 : -9223372036854775808 ≤ n) (n2 : n ≤ 9223372036854775807) : PCall Tryd.prog 51 [.val (.int .i64 n)] (str (Lib.itoa n)) := by
  refine FCall.pcall (R := fun r _ => r = str (Lib.itoa n)) ?_ 0 (by rintro r H rfl; exact view_str)
  refine FCall.of_body Tryd.func51 rfl (by kernel_rfl) (by simp [Tryd.ntmps51]) ?_
  refine SW_of_vc Tryd.mixed _ _ _ (by kernel_rfl) ?_
  by_cases h0 : n = 0
  · subst h0
    simp (disch := omega) only [Tryd.ntmps51, Tryd.results51, go_sem]
    exact Fin.val (by rw [Lib.itoa, if_neg (by omega)]; rw [Lib.decDigits, dif_pos (by decide)]; rfl)
  have hlen := digz_le n.natAbs
  simp (disch := omega) only [Tryd.ntmps51, Tryd.results51, go_sem, beq_iff_eq]
  refine LoopW.loop (fun p : Int × List UInt8 × Nat => ⟨ofL [(0, .val (.int .i64 p.1)), (3, str p.2.1), (4, .val (.bool (decide (n < 0))))], hp [] p.2.2⟩)
    (fun p => digz p.1.natAbs ++ p.2.1 = digz n.natAbs ∧ p.1.natAbs ≤ n.natAbs ∧ (0 ≤ n → 0 ≤ p.1) ∧ (n ≤ 0 → p.1 ≤ 0)) (fun p => p.1.natAbs) (n, [], 0) ⟨by simp, Nat.le_refl _, id, id⟩ (Wk.of (by simp only [go_sem, ↓List.forall_mem_cons, List.not_mem_nil, false_implies, implies_true, and_true, true_and, and_self, ri_eq, Int.natCast_add, Int.cast_ofNat_Int]; try simp) rfl) ?_
  rintro ⟨m, l, nb⟩ ⟨hd, hm, hs1, hs2⟩
  simp only at hd hm hs1 hs2
  refine SW_of_vc Tryd.mixed _ _ _ (by kernel_rfl) ?_
  by_cases hm0 : m = 0
  · subst hm0
    have hl : l = digz n.natAbs := by simpa [digz] using hd
    have hll : l.length ≤ n.natAbs / 2 + 1 := by rw [hl]; exact hlen
    by_cases hneg : n < 0
    · simp (disch := omega) only [Tryd.ntmps51, Tryd.results51, go_sem]
      exact Fin.val (by rw [itoa_eq n h0, if_pos hneg, hl])
    · simp (disch := omega) only [Tryd.ntmps51, Tryd.results51, go_sem]
      exact Fin.val (by rw [itoa_eq n h0, if_neg hneg, hl])
  · have hll : l.length ≤ n.natAbs / 2 + 1 := by
      have := congrArg List.length hd
      rw [List.length_append] at this; omega
    have hd2 := digz_step (u := m.natAbs) (by omega)
    have hq1 := abs_quo m
    have hq2 := quo_sign m
    have hr := abs_rem m
    have hdig : ∀ x : Int, x = ((m.natAbs % 10 : Nat) : Int) → UInt8.ofNat (IntKind.u8.wrap (48 + x)).toNat = UInt8.ofNat (48 + m.natAbs % 10) := fun x hx => by
      subst hx
      rw [wrap8_id (by omega) (by omega)]
      congr 1
    have hd3 : digz (m.tdiv 10).natAbs ++ UInt8.ofNat (48 + m.natAbs % 10) :: l = digz n.natAbs := by rw [hq1, ← hd, hd2]; simp
    by_cases hneg : m.tmod 10 < 0
    · rw [if_pos hneg] at hr
      have hdg := hdig (0 - m.tmod 10) (by omega)
      simp (disch := omega) only [Tryd.ntmps51, Tryd.results51, go_sem, hdg]
      exact ⟨(m.tdiv 10, UInt8.ofNat (48 + m.natAbs % 10) :: l, nb + 1), ⟨hd3, by simp only; omega, fun h => hq2.1 (hs1 h), fun h => hq2.2 (hs2 h)⟩, by simp only; omega, Wk.ofH (by simp only [go_sem, ↓List.forall_mem_cons, List.not_mem_nil, false_implies, implies_true, and_true, true_and, and_self, ri_eq, Int.natCast_add, Int.cast_ofNat_Int]; try simp) (by simp) (Nat.le_refl _)⟩
    · rw [if_neg hneg] at hr
      have hdg := hdig (m.tmod 10) hr
      simp (disch := omega) only [Tryd.ntmps51, Tryd.results51, go_sem, hdg]
      exact ⟨(m.tdiv 10, UInt8.ofNat (48 + m.natAbs % 10) :: l, nb + 1), ⟨hd3, by simp only; omega, fun h => hq2.1 (hs1 h), fun h => hq2.2 (hs2 h)⟩, by simp only; omega, Wk.ofH (by simp only [go_sem, ↓List.forall_mem_cons, List.not_mem_nil, false_implies, implies_true, and_true, true_and, and_self, ri_eq, Int.natCast_add, Int.cast_ofNat_Int]; try simp) (by simp) (Nat.le_refl _)⟩
end Go.Sh

/-
  Lists of strings; strings.Join; numbers joined: contracts.
-/
namespace Go.Sh
set_option linter.unusedSimpArgs false
set_option linter.unusedVariables false
open Go Go.Proofs

theorem strs_length (L : List (List UInt8)) : (strs L).length = L.length := by simp [strs]
theorem strs_get {L : List (List UInt8)} {k : Nat} (h : k < L.length) : (strs L)[k]? = some (str (L.getD k [])) := by simp [strs, h]
theorem strs_set (L : List (List UInt8)) (k : Nat) (x : List UInt8) : (strs L).set k (.val (.string (sb x))) = strs (L.set k x) := by simp [strs, List.map_set]
theorem strs_append (A B : List (List UInt8)) : strs A ++ strs B = strs (A ++ B) := by simp [strs]
theorem strs_snoc (A : List (List UInt8)) (x : List UInt8) : strs A ++ [.val (.string (sb x))] = strs (A ++ [x]) := by simp [strs]
theorem strs_replicate (n : Nat) (x : List UInt8) : List.replicate n (SV.val (.string (sb x))) = strs (List.replicate n x) := by simp [strs]
theorem strs_one (x : List UInt8) : [SV.val (.string (sb x))] = strs [x] := rfl
theorem strs_nil : strs [] = [] := rfl
theorem strs_take (L : List (List UInt8)) (n : Nat) : (strs L).take n = strs (L.take n) := by simp [strs]
theorem noRowL_strs : ∀ L : List (List UInt8), noRowL (strs L) = true
  | [] => rfl
  | x :: L => by
    have := noRowL_strs L
    simp only [strs, List.map_cons, noRowL, noRow, Bool.true_and] at this ⊢
    exact this
theorem viewL_strs {H : Heap} {f : Nat} : ∀ L : List (List UInt8), viewL H f (strs L) = some (strs L)
  | [] => viewL_nil_of
  | x :: L => viewL_cons_of view_str (viewL_strs L)
theorem view_ownS {H : Heap} {b n f cap : Nat} {ex e2 : Bool} {L : List (List UInt8)} (hb : H.map b = some ⟨strs L, e2⟩) (hn : n = L.length) : view H (f + 1) (.own b 0 n cap 1 ex) = some (rst L) := by
  subst hn
  simp only [Sh.view, hb, Nat.mul_one, List.drop_zero]
  rw [if_pos (by simp [strs])]
  have : (strs L).take L.length = strs L := by rw [← strs_length L, List.take_length]
  rw [this, viewL_strs, rst]
theorem view_nilS {H : Heap} {f : Nat} : view H f (.val (.slice none 0 0)) = some (rst []) := by simp only [view, viewV, rst, strs, List.map_nil, List.length_nil]
attribute [go_sem] sb_empty

def fillS (L : List (List UInt8)) (k : Nat) : List (List UInt8) := L.take k ++ List.replicate (L.length - k) []
theorem fillS_zero (L : List (List UInt8)) : fillS L 0 = List.replicate L.length [] := by simp [fillS]
theorem fillS_length (L : List (List UInt8)) (k : Nat) (h : k ≤ L.length) : (fillS L k).length = L.length := by simp [fillS]; omega
theorem fillS_set (L : List (List UInt8)) (k : Nat) (h : k < L.length) : (fillS L k).set k (L.getD k []) = fillS L (k + 1) := by
  apply List.ext_getElem?
  intro i
  simp [fillS, List.getElem?_set, List.getElem?_append, List.getElem?_take, List.getElem?_replicate]
  grind
theorem fillS_all (L : List (List UInt8)) : fillS L L.length = L := by simp [fillS]

theorem Tryd.strJoin_ok (xs : List (List UInt8)) (sep : List UInt8) (hn : xs.length ≤ 140737488355328) (hlen : (Lib.join xs sep).length ≤ 140737488355328) : PCall Tryd.prog 54 [rst xs, str sep] (str (Lib.join xs sep)) := by
  refine ⟨⟨_, Tryd.func54, rfl, rfl⟩, fun w vs hl _ => ?_⟩
  simp only [LRel, rst, VRel] at hl
  obtain ⟨v, rest, rfl, ⟨a, cap, rfl, h2, h3, h4⟩, v2, rest2, rfl, rfl, rfl⟩ := hl
  have emp : xs.length = 0 → Calls Tryd.prog 54 #[.slice a 0 cap, .string (sb sep)] w (fun e w' => ∃ v, e = .returned v ∧ RowKit.Below w.heap.size w w' ∧ VRel (fun k => k < w.heap.size) w' noj (str (Lib.join xs sep)) v) := fun h0 => by
    obtain rfl : xs = [] := List.length_eq_zero_iff.1 h0
    refine (Tryd.strings_Join_none a cap (sb sep) w).mono ?_
    rintro e w' ⟨rfl, rfl⟩
    refine ⟨_, rfl, RowKit.Below.refl _ _, ?_⟩
    simp only [VRel]; rfl
  by_cases h0 : xs.length = 0
  · rw [h0]; exact emp h0
  rcases h4 with ⟨_, h5, _⟩ | ⟨b, rfl, h5⟩
  · omega
  have hcell : ∀ (j : Nat) x, (xs.map sb)[j]? = some x → w.cell? ⟨b.block, b.off + j, none⟩ = some (.string x) := fun j x hj => by
    simp only [List.getElem?_map, Option.map_eq_some_iff] at hj
    obtain ⟨y, hy, rfl⟩ := hj
    obtain ⟨v, _, _, g1, g2⟩ := CRel.get (i := j) (s := str y) h5 (by simp [strs, hy])
    simp only [VRel] at g2
    rw [g1, g2]
  have hs : b.spot = none := by
    obtain ⟨v, g, _⟩ := CRel.get (i := 0) (s := str (xs.getD 0 [])) h5 (strs_get (by omega))
    exact g
  obtain ⟨bk, o, sp⟩ := b
  simp only at hs hcell
  subst hs
  have hbk : bk < w.heap.size := by
    have g := hcell 0 (sb (xs.getD 0 [])) (by
      have : 0 < xs.length := by omega
      simp [this])
    exact w.block_lt_of_cell? _ g
  have e1 : (xs.map sb).map (·.data.toList) = xs := by
    rw [List.map_map]
    conv => rhs; rw [← List.map_id xs]
    exact List.map_congr_left fun x _ => sb_data x
  have := Tryd.strings_Join bk o cap (xs.map sb) (sb sep) w hcell hbk (by simpa using hn) (by simpa using h2) (by rw [e1, sb_data]; exact hlen)
  rw [e1, sb_data, List.length_map] at this
  refine this.mono ?_
  rintro e w' ⟨rfl, h⟩
  refine ⟨_, rfl, h, ?_⟩
  simp only [VRel]; rfl

set_option maxHeartbeats 4000000 in
theorem Tryd.joinInts_ok (L : List Int) (sep : List UInt8) (hL : L.length ≤ 1048576) (hF : ∀ i, i < L.length → PCall Tryd.prog 58 [.val (.int .i64 (L.getD i 0))] (str (Lib.itoa (L.getD i 0))))
    (hlen : (Lib.join (L.map Lib.itoa) sep).length ≤ 140737488355328) : PCall Tryd.prog 53 [ri L, str sep] (str (Lib.join (L.map Lib.itoa) sep)) := by
  have hJ := Tryd.strJoin_ok (L.map Lib.itoa) sep (by simp; omega) hlen
  refine FCall.pcall (R := fun r _ => r = str (Lib.join (L.map Lib.itoa) sep)) ?_ 0 (by rintro r H rfl; exact view_str)
  refine FCall.of_body Tryd.func53 rfl (by kernel_rfl) (by simp [Tryd.ntmps53]) ?_
  refine SW_of_vc Tryd.mixed _ _ _ (by kernel_rfl) ?_
  simp (disch := omega) only [Tryd.ntmps53, Tryd.results53, go_sem]
  have hml : (L.map Lib.itoa).length = L.length := by simp
  refine LoopW.loop (fun k : Nat => ⟨ofL [(1, str sep), (5, .own 0 0 L.length L.length 1 true), (11, ri L), (12, .val (.int .i64 L.length)), (13, .val (.int .i64 k))], hp [(0, ⟨strs (fillS (L.map Lib.itoa) k), true⟩)] 1⟩) (fun k => k ≤ L.length) (fun k => L.length - k) 0 (by omega)
    (Wk.of (by simp only [go_sem, ↓List.forall_mem_cons, List.not_mem_nil, false_implies, implies_true, and_true, true_and, and_self, ri_eq, Int.natCast_add, Int.cast_ofNat_Int]; try simp) (by simp only [fillS_zero, hml, ← strs_replicate])) ?_
  intro k hk
  have hf := fillS_length (L.map Lib.itoa) k (by omega)
  refine SW_of_vc Tryd.mixed _ _ _ (by kernel_rfl) ?_
  by_cases hlt : k < L.length
  · have hg : (L.map Lib.itoa).getD k [] = Lib.itoa (L.getD k 0) := by simp [hlt]
    have hst := fillS_set (L.map Lib.itoa) k (by omega)
    rw [hg] at hst
    have g1 := ints_get hlt
    simp (disch := omega) only [Tryd.ntmps53, Tryd.results53, go_sem, g1]
    refine (hF k hlt).callV 0 (viewL_cons_of (view_int) viewL_nil_of) ?_
    simp (disch := omega) only [Tryd.ntmps53, Tryd.results53, go_sem, hf, hml, strs_length, strs_set, hst]
    exact ⟨k + 1, by omega, by omega, Wk.of (by simp only [go_sem, ↓List.forall_mem_cons, List.not_mem_nil, false_implies, implies_true, and_true, true_and, and_self, ri_eq, Int.natCast_add, Int.cast_ofNat_Int]; try simp) rfl⟩
  · obtain rfl : k = L.length := by omega
    have hall : fillS (L.map Lib.itoa) L.length = L.map Lib.itoa := by rw [← hml]; exact fillS_all _
    rw [hall]
    simp (disch := omega) only [Tryd.ntmps53, Tryd.results53, go_sem]
    refine hJ.callV 2 (viewL_cons_of (view_ownS (e2 := true) (L := L.map Lib.itoa) (by first | rfl | (simp (disch := omega) only [hx_map, hp_map, xmap_blk, hmap_cons, xmap_skipI, xmap_nil, if_pos, if_neg, ↓reduceIte]; try rfl)) (by simp)) (viewL_cons_of view_str viewL_nil_of)) ?_
    simp (disch := omega) only [Tryd.ntmps53, Tryd.results53, go_sem]
    exact Fin.val rfl
end Go.Sh

/-
  Contracts: matrices marked, and what they hold then.
-/
namespace Go.Sh
set_option linter.unusedSimpArgs false
set_option linter.unusedVariables false
open Go Go.Proofs
variable {P : Program}

def marksM (M : List (List Int)) (k : Int) : List (List Int) := (List.range M.length).map fun i => marks (mrow M i).length (k + msum M i)
theorem marksM_length (M : List (List Int)) (k : Int) : (marksM M k).length = M.length := by simp [marksM]
theorem marksM_row {M : List (List Int)} {k : Int} {i : Nat} (h : i < M.length) : mrow (marksM M k) i = marks (mrow M i).length (k + msum M i) := by simp [mrow, marksM, h]
theorem outerB_eq {b : Nat} {R S : List (List SV)} (h : R.length = S.length) (g : ∀ i, i < R.length → (rowAt R i).length = (rowAt S i).length) : outerB b R = outerB b S := by
  unfold outerB
  rw [← h]
  refine List.map_congr_left (fun i hi => ?_)
  rw [g i (by simpa using hi)]
theorem marksM_outer (b : Nat) (M : List (List Int)) (k : Int) : outerB b (mi (marksM M k)) = outerB b (mi M) := by
  refine outerB_eq (by rw [mi_length, mi_length, marksM_length]) fun i hi => ?_
  rw [mi_length, marksM_length] at hi
  rw [mi_row (by rw [marksM_length]; exact hi), mi_row hi, ints_length, ints_length, marksM_row hi, marks_length]
def Heap.mkd (H : Heap) (b : Nat) (M : List (List Int)) (k : Int) (i : Nat) : Heap := ⟨fun x => if b + 1 ≤ x ∧ x ≤ b + i then some ⟨ints (mrow (marksM M k) (x - b - 1)), false⟩ else H.map x, H.nb⟩
theorem mkd_zero (H : Heap) (b : Nat) (M : List (List Int)) (k : Int) : H.mkd b M k 0 = H := Heap.ext' (fun x => by simp only [Heap.mkd]; rw [if_neg (by omega)]) rfl
theorem mkd_set {H : Heap} {b : Nat} {M : List (List Int)} {k : Int} {i : Nat} (h : i < M.length) : (H.mkd b M k i).set (b + 1 + i) (some ⟨ints (marks (mrow M i).length (k + msum M i)), false⟩) = H.mkd b M k (i + 1) := by
  refine Heap.ext' (fun x => ?_) rfl
  simp only [Heap.mkd, Heap.set]
  by_cases h1 : x = b + 1 + i
  · subst h1
    have e : b + 1 + i - b - 1 = i := by omega
    rw [if_pos rfl, if_pos (by omega), e, marksM_row h]
  · rw [if_neg h1]
    by_cases h2 : b + 1 ≤ x ∧ x ≤ b + i
    · rw [if_pos h2, if_pos (by omega)]
    · rw [if_neg h2, if_neg (by omega)]
theorem mkd_map {H : Heap} {b : Nat} {M : List (List Int)} {k : Int} {i x : Nat} (h : x ≤ b ∨ b + i < x) : (H.mkd b M k i).map x = H.map x := by
  simp only [Heap.mkd]; rw [if_neg (by omega)]

set_option maxHeartbeats 1000000 in
/-- A matrix marked. -/
theorem Tryd.markIntSS_keep (M : List (List Int)) (k : Int) (H : Heap) (b n : Nat) (hb : EntIn H (.mat b (mi M))) (hn : n = M.length) (hM : M.length ≤ 1048576) (hR : ∀ i, i < M.length → (mrow M i).length ≤ 1048576) (hk : 0 ≤ k) (hk2 : k + msum M M.length ≤ 1099511627776) :
    CallS Tryd.prog 48 [.own b 0 n n 1 false, .val (.int .i64 k)] H (fun r H' => r = .val (.int .i64 (k + msum M M.length)) ∧ H' = consE (.mat b (mi (marksM M k))) H) := by
  subst hn
  have hb' := hb
  simp only [EntIn, mi_length] at hb'
  have h0 : H.map b = some ⟨outerB b (mi M), false⟩ := by rw [hb' b (by omega) (by omega), matMap, if_pos rfl]
  have hrow : ∀ i, i < M.length → H.map (b + 1 + i) = some ⟨ints (mrow M i), false⟩ := fun i hi => by
    rw [hb' (b + 1 + i) (by omega) (by omega), matMap, if_neg (by omega), ← mi_row hi]
    congr 3; omega
  have hend : consE (.mat b (mi (marksM M k))) H = H.mkd b M k M.length := by
    refine Heap.ext' (fun x => ?_) rfl
    simp only [consE, Heap.mkd, mi_length, marksM_length]
    by_cases h1 : b ≤ x ∧ x ≤ b + M.length
    · rw [if_pos h1, matMap]
      by_cases h2 : x = b
      · subst h2
        rw [if_pos rfl, if_neg (by omega), marksM_outer, h0]
      · rw [if_neg h2, if_pos (by omega), mi_row (by rw [marksM_length]; omega)]
    · rw [if_neg h1, if_neg (by omega)]
  rw [hend]
  refine CallS.of_body Tryd.func48 rfl (by kernel_rfl) (by simp [Tryd.ntmps48]) ?_
  refine SW_of_vc Tryd.mixed _ _ _ (by kernel_rfl) ?_
  simp (disch := omega) only [Tryd.ntmps48, Tryd.results48, go_sem]
  refine LoopW.loop (fun i : Nat => ⟨ofL [(0, .own b 0 M.length M.length 1 false), (1, .val (.int .i64 (k + msum M i))), (5, .val (.int .i64 i))], H.mkd b M k i⟩) (fun i => i ≤ M.length) (fun i => M.length - i) 0 (by omega) (Wk.of (by simp only [go_sem, ↓List.forall_mem_cons, List.not_mem_nil, false_implies, implies_true, and_true, true_and, and_self, ri_eq, Int.natCast_add, Int.cast_ofNat_Int, msum, List.take_zero, List.sum_nil, Int.add_zero]; try simp) (mkd_zero _ _ _ _).symm) ?_
  intro i hi
  refine SW_of_vc Tryd.mixed _ _ _ (by kernel_rfl) ?_
  have hm0 : (H.mkd b M k i).map b = some ⟨outerB b (mi M), false⟩ := by rw [mkd_map (by omega), h0]
  have hmn := msum_nonneg M i
  by_cases hlt : i < M.length
  · have hm1 : (H.mkd b M k i).map (b + 1 + i) = some ⟨ints (mrow M i), false⟩ := by rw [mkd_map (by omega), hrow i hlt]
    have hmono := msum_mono (M := M) (k := i) (j := M.length) (by omega) (by omega)
    have hs := msum_succ hlt
    simp (disch := omega) only [Tryd.ntmps48, Tryd.results48, go_sem, hm0, outerB_getI]
    refine (Tryd.markIntS_ok (mrow M i) (k + msum M i) _ (b + 1 + i) _ _ false false hm1 rfl (by have := hR i hlt; omega) (by omega) (by omega)).callDet ?_
    simp (disch := omega) only [Tryd.ntmps48, Tryd.results48, go_sem]
    exact ⟨i + 1, hlt, by omega, Wk.of (by simp only [go_sem, ↓List.forall_mem_cons, List.not_mem_nil, false_implies, implies_true, and_true, true_and, and_self, ri_eq, Int.natCast_add, Int.cast_ofNat_Int, hs, Int.add_assoc]; try simp) (mkd_set hlt)⟩
  · obtain rfl : i = M.length := by omega
    simp (disch := omega) only [Tryd.ntmps48, Tryd.results48, go_sem]
theorem Tryd.markIntSS_nil (k : Int) (H : Heap) (hk : 0 ≤ k) (hk2 : k ≤ 1099511627776) : CallS Tryd.prog 48 [.val (.slice none 0 0), .val (.int .i64 k)] H (fun r H' => r = .val (.int .i64 k) ∧ H' = H) := by
  refine CallS.of_body Tryd.func48 rfl (by kernel_rfl) (by simp [Tryd.ntmps48]) ?_
  refine SW_of_vc Tryd.mixed _ _ _ (by kernel_rfl) ?_
  simp (disch := omega) only [Tryd.ntmps48, Tryd.results48, go_sem]
  refine LoopW.loop (fun _ : Unit => ⟨ofL [(0, .val (.slice none 0 0)), (1, .val (.int .i64 k)), (5, .val (.int .i64 0))], H⟩) (fun _ => True) (fun _ => 0) () trivial (Wk.of (by simp only [go_sem, ↓List.forall_mem_cons, List.not_mem_nil, false_implies, implies_true, and_true, true_and, and_self, ri_eq, Int.natCast_add, Int.cast_ofNat_Int]; try simp) rfl) ?_
  rintro _ _
  refine SW_of_vc Tryd.mixed _ _ _ (by kernel_rfl) ?_
  simp (disch := omega) only [Tryd.ntmps48, Tryd.results48, go_sem]

set_option maxHeartbeats 1000000 in
theorem Tryd.heldIntSS_marks (M : List (List Int)) (k : Int) (hM : M.length ≤ 1048576) (hR : ∀ i, i < M.length → (mrow M i).length ≤ 1048576) (hk : 0 ≤ k) (hk2 : k + msum M M.length ≤ 1099511627776) :
    PCall Tryd.prog 49 [rr (marksM M k), .val (.int .i64 k)] (.val (.int .i64 (k + msum M M.length))) := by
  refine FCall.pcall (R := fun r _ => r = .val (.int .i64 (k + msum M M.length))) ?_ 0 (by rintro r H rfl; exact view_int)
  have hl := marksM_length M k
  refine FCall.of_body Tryd.func49 rfl (by kernel_rfl) (by simp [Tryd.ntmps49]) ?_
  refine SW_of_vc Tryd.mixed _ _ _ (by kernel_rfl) ?_
  simp (disch := omega) only [Tryd.ntmps49, Tryd.results49, go_sem, rr_eq, hl]
  refine LoopW.loop (fun i : Nat => ⟨ofL [(0, rr (marksM M k)), (1, .val (.int .i64 (k + msum M i))), (5, .val (.int .i64 i))], hp [] 0⟩) (fun i => i ≤ M.length) (fun i => M.length - i) 0 (by omega) (Wk.of (by simp only [go_sem, ↓List.forall_mem_cons, List.not_mem_nil, false_implies, implies_true, and_true, true_and, and_self, ri_eq, Int.natCast_add, Int.cast_ofNat_Int, rr_eq, hl, msum, List.take_zero, List.sum_nil, Int.add_zero]; try simp) rfl) ?_
  intro i hi
  refine SW_of_vc Tryd.mixed _ _ _ (by kernel_rfl) ?_
  have hmn := msum_nonneg M i
  by_cases hlt : i < M.length
  · have hrow := marksM_row (k := k) hlt
    have hmono := msum_mono (M := M) (k := i) (j := M.length) (by omega) (by omega)
    have hmono2 := msum_mono (M := M) (k := i + 1) (j := M.length) (by omega) (by omega)
    have hs := msum_succ hlt
    have w := Tryd.heldIntS_ok (marks (mrow M i).length (k + msum M i)) (k + msum M i) (by rw [marks_length]; have := hR i hlt; omega) (by omega) (by omega)
    rw [held_marks] at w
    simp (disch := omega) only [Tryd.ntmps49, Tryd.results49, go_sem, rr_eq, hl, rows_get, hrow, marks_length]
    refine w.callV 0 (viewL_cons_of (view_rowL (by first | rfl | simp [marks_length, canon_length] | omega)) (viewL_cons_of (view_int) viewL_nil_of)) ?_
    simp (disch := omega) only [Tryd.ntmps49, Tryd.results49, go_sem, rr_eq, hl]
    exact ⟨i + 1, hlt, by omega, Wk.of (by simp only [go_sem, ↓List.forall_mem_cons, List.not_mem_nil, false_implies, implies_true, and_true, true_and, and_self, ri_eq, Int.natCast_add, Int.cast_ofNat_Int, rr_eq, hl, hs, Int.add_assoc]; try simp) rfl⟩
  · obtain rfl : i = M.length := by omega
    simp (disch := omega) only [Tryd.ntmps49, Tryd.results49, go_sem, rr_eq, hl]
    exact Fin.val rfl
theorem view_nilM {H : Heap} {f : Nat} : view H f (.val (.slice none 0 0)) = some (rr []) := view_nil
theorem view_rowM {H : Heap} {f n : Nat} {ex : Bool} {M : List (List Int)} (hn : n = M.length) : view H f (.row n ex (rows M)) = some (rr M) := by subst hn; simp only [view, rr]
end Go.Sh

/-
  Blocks of a partition: plain. Rows under names of their own, changed one by one.
-/
namespace Go.Sh
set_option linter.unusedSimpArgs false
set_option linter.unusedVariables false
open Go Go.Proofs

def blkTo (L : List Int) : Nat → List (List Int)
  | 0 => []
  | k + 1 => if L.getD k 0 = (blkTo L k).length then blkTo L k ++ [[(k : Int)]] else (blkTo L k).set (L.getD k 0).toNat ((blkTo L k).getD (L.getD k 0).toNat [] ++ [(k : Int)])
theorem blkTo_new {L : List Int} {k : Nat} (h : L.getD k 0 = (blkTo L k).length) : blkTo L (k + 1) = blkTo L k ++ [[(k : Int)]] := by rw [blkTo, if_pos h]
theorem blkTo_old {L : List Int} {k x : Nat} (hx : L.getD k 0 = x) (h : x < (blkTo L k).length) : blkTo L (k + 1) = (blkTo L k).set x (mrow (blkTo L k) x ++ [(k : Int)]) := by
  rw [blkTo, if_neg (by omega), hx, Int.toNat_natCast]; rfl
def nxt : List Int → Int → Nat → Int
  | _, n, 0 => n
  | [], n, _ + 1 => n
  | x :: L, n, k + 1 => nxt L (max n (x + 1)) k
theorem nxt_succ : ∀ (L : List Int) (n : Int) (k : Nat), k < L.length → nxt L n (k + 1) = max (nxt L n k) (L.getD k 0 + 1)
  | [], n, k, h => by simp at h
  | x :: L, n, 0, h => by cases L <;> simp [nxt]
  | x :: L, n, k + 1, h => by
    have := nxt_succ L (max n (x + 1)) k (by simpa using h)
    simpa [nxt] using this
theorem okP_nxt : ∀ (L : List Int) (n : Int), okP n L = true → ∀ k, k < L.length → 0 ≤ L.getD k 0 ∧ L.getD k 0 ≤ nxt L n k
  | [], n, _, k, h => by simp at h
  | x :: L, n, ho, 0, h => by
    rw [okP, Bool.and_eq_true] at ho
    have := inR_of ho.1
    simpa [nxt] using this
  | x :: L, n, ho, k + 1, h => by
    rw [okP, Bool.and_eq_true] at ho
    have := okP_nxt L (max n (x + 1)) ho.2 k (by simpa using h)
    simpa [nxt] using this
theorem blkTo_length {L : List Int} (h : okP 0 L = true) : ∀ k, k ≤ L.length → ((blkTo L k).length : Int) = nxt L 0 k
  | 0, _ => by simp [blkTo, nxt]
  | k + 1, hk => by
    have ih := blkTo_length h k (by omega)
    have hb := okP_nxt L 0 h k (by omega)
    rw [nxt_succ L 0 k (by omega)]
    by_cases e : L.getD k 0 = (blkTo L k).length
    · rw [blkTo_new e, List.length_append, List.length_singleton]; omega
    · rw [blkTo, if_neg e, List.length_set]; omega
theorem blk_at {L : List Int} (h : isPart L = true) {k : Nat} (hk : k < L.length) : ∃ x : Nat, L.getD k 0 = x ∧ x ≤ (blkTo L k).length := by
  rw [isPart, Bool.and_eq_true] at h
  have h1 := okP_nxt L 0 h.1 k hk
  have h2 := blkTo_length h.1 k (by omega)
  exact ⟨(L.getD k 0).toNat, by omega, by omega⟩
theorem blkTo_le (L : List Int) : ∀ k, (blkTo L k).length ≤ k
  | 0 => by simp [blkTo]
  | k + 1 => by
    have := blkTo_le L k
    rw [blkTo]
    split
    · simp; omega
    · simp; omega
theorem blkTo_row (L : List Int) : ∀ k i, (mrow (blkTo L k) i).length ≤ k
  | 0, i => by simp [blkTo, mrow]
  | k + 1, i => by
    have ih := blkTo_row L k
    rw [blkTo]
    split
    · simp only [mrow, List.getD_eq_getElem?_getD, List.getElem?_append]
      split
      · have := ih i
        simp only [mrow, List.getD_eq_getElem?_getD] at this; omega
      · cases h : i - (blkTo L k).length with
        | zero => simp
        | succ m => simp
    · simp only [mrow, List.getD_eq_getElem?_getD, List.getElem?_set]
      split
      · split
        · have := ih (L.getD k 0).toNat
          simp only [mrow, List.getD_eq_getElem?_getD] at this
          simp; omega
        · simp
      · have := ih i
        simp only [mrow, List.getD_eq_getElem?_getD] at this; omega
/-- The items of each block. -/
def blocksOf (L : List Int) : List (List Int) := if isPart L = true then blkTo L L.length else []
theorem blocksOf_t {L : List Int} (h : isPart L = true) : blocksOf L = blkTo L L.length := by rw [blocksOf, if_pos h]
theorem blocksOf_f {L : List Int} (h : isPart L = false) : blocksOf L = [] := by rw [blocksOf, if_neg (by rw [h]; simp)]

theorem mi_snoc (M : List (List Int)) (r : List Int) : mi (M ++ [r]) = mi M ++ [ints r] := by simp [mi]
theorem mi_set (M : List (List Int)) (x : Nat) (r : List Int) : mi (M.set x r) = (mi M).set x (ints r) := by simp [mi, List.map_set]
/-! ### Rows, one by one -/
theorem xdel_cut (c : Nat) (l : List Ent) (b : Nat) : xdel (.cut c :: l) b = .cut b :: .cut c :: l := rfl
theorem xmap_cut (b : Nat) (l : List Ent) (x : Nat) : xmap (.cut b :: l) x = if x = b then none else xmap l x := rfl
def nrAt (nr : List (Nat × List SV)) (x : Nat) : Nat × List SV := nr.getD x (0, [])
theorem nrAt_mem {nr : List (Nat × List SV)} {x : Nat} (h : x < nr.length) : nrAt nr x ∈ nr := by simp [nrAt, h]
theorem outerN_get {fl : Bool} {nr : List (Nat × List SV)} {x : Nat} (h : x < nr.length) : (outerN fl nr)[x]? = some (.own (nrAt nr x).1 0 (nrAt nr x).2.length (nrAt nr x).2.length 1 fl) := by simp [outerN, nrAt, h]
theorem outerN_set {fl : Bool} {nr : List (Nat × List SV)} {x nm n : Nat} {r : List SV} (hn : n = r.length) : (outerN fl nr).set x (.own nm 0 n n 1 fl) = outerN fl (nr.set x (nm, r)) := by subst hn; simp [outerN, List.map_set]
theorem xmap_rowsAt {fl : Bool} {nr : List (Nat × List SV)} {l : List Ent} {x : Nat} (h : (nr.map (·.1)).Nodup) (hx : x < nr.length) : xmap (.rows fl nr :: l) (nrAt nr x).1 = some ⟨(nrAt nr x).2, fl⟩ := by
  rw [xmap, nrFind_get h (nrAt_mem hx)]
theorem nr_ne {nr : List (Nat × List SV)} (h : (nr.map (·.1)).Nodup) {i j : Nat} (hi : i < nr.length) (hj : j < nr.length) (hne : i ≠ j) : (nrAt nr i).1 ≠ (nrAt nr j).1 := by
  have hpw := List.pairwise_iff_getElem.1 h
  have e1 : (nrAt nr i).1 = (nr.map (·.1))[i]'(by simpa using hi) := by simp [nrAt, hi]
  have e2 : (nrAt nr j).1 = (nr.map (·.1))[j]'(by simpa using hj) := by simp [nrAt, hj]
  rw [e1, e2]
  rcases Nat.lt_or_gt_of_ne hne with g | g
  · exact hpw i j _ _ g
  · exact (hpw j i _ _ g).symm
theorem mem_setN {nr : List (Nat × List SV)} {x : Nat} {q p : Nat × List SV} (h : p ∈ nr.set x q) : p = q ∨ ∃ j, j < nr.length ∧ j ≠ x ∧ p = nrAt nr j := by
  obtain ⟨j, hj, rfl⟩ := List.getElem_of_mem h
  rw [List.length_set] at hj
  rw [List.getElem_set]
  split
  · exact .inl rfl
  · rename_i hne
    exact .inr ⟨j, hj, fun e => hne e.symm, by simp [nrAt, hj]⟩
theorem NrOk.set {b nb nb' nm x : Nat} {r : List SV} {nr : List (Nat × List SV)} (h : NrOk b nb nr) (h1 : nb ≤ nm) (h2 : nm < nb') : NrOk b nb' (nr.set x (nm, r)) := by
  have hb := h.1
  refine ⟨by omega, fun p hp => ?_, ?_⟩
  · rcases mem_setN hp with rfl | ⟨j, hj, _, rfl⟩
    · exact ⟨h2, by simp only []; omega⟩
    · have := h.2.1 _ (nrAt_mem hj)
      exact ⟨by omega, this.2⟩
  · rw [List.map_set]
    refine List.pairwise_iff_getElem.2 fun i j hi hj hij => ?_
    simp only [List.length_set, List.length_map] at hi hj
    rw [List.getElem_set, List.getElem_set]
    have hlt : ∀ k (hk : k < nr.length), (nr.map (·.1))[k]'(by simpa using hk) < nb := fun k hk => by
      have := (h.2.1 _ (List.getElem_mem hk)).1
      simpa using this
    split
    · rw [if_neg (by omega)]
      have := hlt j hj
      simp only []; omega
    · split
      · have := hlt i hi
        simp only []; omega
      · exact List.pairwise_iff_getElem.1 h.2.2 i j _ _ hij
theorem EntIn.setN {H : Heap} {fl : Bool} {nr : List (Nat × List SV)} {x nm : Nat} {r : List SV} (h : ∀ j, j < nr.length → j ≠ x → H.map (nrAt nr j).1 = some ⟨(nrAt nr j).2, fl⟩) (h2 : H.map nm = some ⟨r, fl⟩) : EntIn H (.rows fl (nr.set x (nm, r))) := by
  intro p hp
  rcases mem_setN hp with rfl | ⟨j, hj, hne, rfl⟩
  · exact h2
  · exact h j hj hne
theorem nr_row {nr : List (Nat × List SV)} {M : List (List Int)} (h : nr.map (·.2) = mi M) {x : Nat} (hx : x < nr.length) : (nrAt nr x).2 = ints (mrow M x) ∧ x < M.length := by
  have hl : nr.length = M.length := by have := congrArg List.length h; simpa [mi] using this
  have e : (nr.map (·.2))[x]? = (mi M)[x]? := by rw [h]
  have hx2 : x < M.length := by omega
  refine ⟨?_, hx2⟩
  simp [mi, hx, hx2] at e
  simp [nrAt, hx, mrow, hx2, e]
theorem nr_len {nr : List (Nat × List SV)} {M : List (List Int)} (h : nr.map (·.2) = mi M) : nr.length = M.length := by have := congrArg List.length h; simpa [mi] using this
end Go.Sh

/-
  Partitions as text: plain.
-/
namespace Go.Sh
set_option linter.unusedSimpArgs false
set_option linter.unusedVariables false
open Go Go.Proofs

/-! ### Pieces between a byte -/
def cutL (c : UInt8) : List UInt8 → List (List UInt8)
  | [] => [[]]
  | x :: s => if x = c then [] :: cutL c s else match cutL c s with
    | [] => [[x]]
    | p :: ps => (x :: p) :: ps
theorem cutL_ne (c : UInt8) : ∀ s, ∃ p ps, cutL c s = p :: ps
  | [] => ⟨_, _, rfl⟩
  | x :: s => by
    rw [cutL]
    split
    · exact ⟨_, _, rfl⟩
    · obtain ⟨p, ps, h⟩ := cutL_ne c s
      rw [h]; exact ⟨_, _, rfl⟩
theorem cutL_none {c : UInt8} : ∀ {s : List UInt8}, c ∉ s → cutL c s = [s]
  | [], _ => rfl
  | x :: s, h => by
    have hx : x ≠ c := fun e => h (by simp [e])
    rw [cutL, if_neg hx, cutL_none (fun hm => h (by simp [hm]))]
theorem cutL_app {c : UInt8} : ∀ {p s : List UInt8}, c ∉ p → cutL c (p ++ c :: s) = p :: cutL c s
  | [], s, _ => by rw [List.nil_append, cutL, if_pos rfl]
  | x :: p, s, h => by
    have hx : x ≠ c := fun e => h (by simp [e])
    rw [List.cons_append, cutL, if_neg hx, cutL_app (p := p) (fun hm => h (by simp [hm]))]
theorem cutL_first {c : UInt8} {s : List UInt8} {m : Nat} (hm : m < s.length) (h : s.getD m 0 = c) (hn : ∀ k, k < m → s.getD k 0 ≠ c) : cutL c s = s.take m :: cutL c (s.drop (m + 1)) := by
  have e : s = s.take m ++ c :: s.drop (m + 1) := by
    have h1 : s.drop m = c :: s.drop (m + 1) := by
      rw [List.drop_eq_getElem_cons hm]; congr 1; simpa [hm] using h
    rw [← h1, List.take_append_drop]
  have hnot : c ∉ s.take m := by
    intro hmem
    obtain ⟨k, hk, e⟩ := List.getElem_of_mem hmem
    have hk' : k < m := by rw [List.length_take] at hk; omega
    refine hn k hk' ?_
    rw [List.getElem_take] at e
    simp [show k < s.length by omega, e]
  conv => lhs; rw [e]
  rw [cutL_app hnot]
theorem cutL_last {c : UInt8} {s : List UInt8} (hn : ∀ k, k < s.length → s.getD k 0 ≠ c) : cutL c s = [s] := by
  refine cutL_none fun hmem => ?_
  obtain ⟨k, hk, e⟩ := List.getElem_of_mem hmem
  exact hn k hk (by simp [hk, e])
theorem cutL_len (c : UInt8) : ∀ s : List UInt8, (cutL c s).length = s.count c + 1
  | [] => rfl
  | x :: s => by
    have ih := cutL_len c s
    rw [cutL]
    split
    · rename_i h; subst h; simp [ih]
    · rename_i h
      obtain ⟨p, ps, e⟩ := cutL_ne c s
      rw [e] at ih ⊢
      rw [List.count_cons_of_ne h]
      simpa using ih
theorem cutL_join {c : UInt8} : ∀ {p : List UInt8} {ps : List (List UInt8)}, (∀ q ∈ p :: ps, c ∉ q) → cutL c (Lib.join (p :: ps) [c]) = p :: ps
  | p, [], h => by rw [Lib.join_one, cutL_none (h p (by simp))]
  | p, q :: ps, h => by
    have e : Lib.join (p :: q :: ps) [c] = p ++ c :: Lib.join (q :: ps) [c] := by
      rw [Lib.join_cons, Lib.join_cons]; simp [Lib.joinTail]
    rw [e, cutL_app (h p (by simp)), cutL_join (fun r hr => h r (List.mem_cons_of_mem _ hr))]

/-! ### The text of a partition -/
theorem itoa_small {x : Nat} (h : x < 10) : Lib.itoa (x : Int) = [UInt8.ofNat (48 + x)] := by
  rw [Lib.itoa, if_neg (by omega), Int.toNat_natCast, Lib.decDigits, dif_pos h]
def fmtB (b : List Int) : List UInt8 := Lib.join (b.map Lib.itoa) []
theorem join_nilsep : ∀ (xs : List (List UInt8)), Lib.join xs [] = xs.flatten
  | [] => rfl
  | x :: xs => by rw [Lib.join_cons]; simp [Lib.joinTail]
theorem fmtB_eq (b : List Int) : fmtB b = (b.map Lib.itoa).flatten := join_nilsep _
def fmtP (L : List Int) : List UInt8 := Lib.join ((blocksOf L).map fmtB) [124]
theorem fmtP_f {L : List Int} (h : isPart L = false) : fmtP L = [] := by rw [fmtP, blocksOf_f h]; rfl

theorem blkTo_lt {L : List Int} (h : isPart L = true) {k : Nat} (hk : k < L.length) : L.getD k 0 < (blkTo L (k + 1)).length := by
  obtain ⟨x, hx, hxl⟩ := blk_at h hk
  by_cases hnew : x = (blkTo L k).length
  · rw [blkTo_new (L := L) (k := k) (by rw [hx, hnew]), List.length_append, List.length_singleton]; omega
  · rw [blkTo_old hx (by omega), List.length_set]; omega
theorem blkTo_len_mono (L : List Int) {j : Nat} : ∀ {k : Nat}, j ≤ k → (blkTo L j).length ≤ (blkTo L k).length
  | 0, h => by
    obtain rfl : j = 0 := by omega
    exact Nat.le_refl _
  | k + 1, h => by
    rcases Nat.lt_or_ge k j with g | g
    · obtain rfl : j = k + 1 := by omega
      exact Nat.le_refl _
    · refine Nat.le_trans (blkTo_len_mono L g) ?_
      rw [blkTo]; split <;> simp
theorem blk_mem {L : List Int} (h : isPart L = true) : ∀ k, k ≤ L.length → ∀ i, i < (blkTo L k).length → (mrow (blkTo L k) i ≠ []) ∧ ∀ y, y ∈ mrow (blkTo L k) i ↔ ∃ x : Nat, x < k ∧ y = x ∧ L.getD x 0 = i
  | 0, _, i, hi => by simp [blkTo] at hi
  | k + 1, hk, i, hi => by
    have ih := blk_mem h k (by omega)
    obtain ⟨x, hx, hxl⟩ := blk_at h (k := k) (by omega)
    by_cases hnew : x = (blkTo L k).length
    · have e := blkTo_new (L := L) (k := k) (by rw [hx, hnew])
      rw [e] at hi ⊢
      rw [List.length_append, List.length_singleton] at hi
      by_cases hi2 : i < (blkTo L k).length
      · have er : mrow (blkTo L k ++ [[(k : Int)]]) i = mrow (blkTo L k) i := by simp [mrow, List.getElem?_append_left hi2]
        rw [er]
        obtain ⟨n1, n2⟩ := ih i hi2
        refine ⟨n1, fun y => (n2 y).trans ?_⟩
        constructor
        · rintro ⟨z, z1, z2, z3⟩; exact ⟨z, by omega, z2, z3⟩
        · rintro ⟨z, z1, z2, z3⟩
          rcases Nat.lt_succ_iff_lt_or_eq.mp z1 with g | rfl
          · exact ⟨z, g, z2, z3⟩
          · omega
      · obtain rfl : i = (blkTo L k).length := by omega
        have er : mrow (blkTo L k ++ [[(k : Int)]]) (blkTo L k).length = [(k : Int)] := by simp [mrow]
        rw [er]
        refine ⟨by simp, fun y => ?_⟩
        simp only [List.mem_singleton]
        constructor
        · rintro rfl; exact ⟨k, by omega, rfl, by rw [hx, hnew]⟩
        · rintro ⟨z, z1, rfl, z3⟩
          rcases Nat.lt_succ_iff_lt_or_eq.mp z1 with g | rfl
          · obtain ⟨z', hz', hzl⟩ := blk_at h (k := z) (by omega)
            have := blkTo_len_mono L (j := z + 1) (k := k) (by omega)
            have := blkTo_lt h (k := z) (by omega)
            omega
          · rfl
    · have hlt : x < (blkTo L k).length := by omega
      have e := blkTo_old hx hlt
      rw [e] at hi ⊢
      rw [List.length_set] at hi
      obtain ⟨n1, n2⟩ := ih i hi
      by_cases hix : i = x
      · subst hix
        have er : mrow ((blkTo L k).set i (mrow (blkTo L k) i ++ [(k : Int)])) i = mrow (blkTo L k) i ++ [(k : Int)] := by simp [mrow, hi]
        rw [er]
        refine ⟨by simp, fun y => ?_⟩
        rw [List.mem_append, List.mem_singleton, n2 y]
        constructor
        · rintro (⟨z, z1, z2, z3⟩ | rfl)
          · exact ⟨z, by omega, z2, z3⟩
          · exact ⟨k, by omega, rfl, hx⟩
        · rintro ⟨z, z1, z2, z3⟩
          rcases Nat.lt_succ_iff_lt_or_eq.mp z1 with g | rfl
          · exact .inl ⟨z, g, z2, z3⟩
          · exact .inr z2
      · have er : mrow ((blkTo L k).set x (mrow (blkTo L k) x ++ [(k : Int)])) i = mrow (blkTo L k) i := by simp [mrow, List.getElem?_set, Ne.symm hix]
        rw [er]
        refine ⟨n1, fun y => (n2 y).trans ?_⟩
        constructor
        · rintro ⟨z, z1, z2, z3⟩; exact ⟨z, by omega, z2, z3⟩
        · rintro ⟨z, z1, z2, z3⟩
          rcases Nat.lt_succ_iff_lt_or_eq.mp z1 with g | rfl
          · exact ⟨z, g, z2, z3⟩
          · omega

theorem sum_set : ∀ {M : List (List Int)} {x : Nat} {k : Int}, x < M.length → ((M.set x (mrow M x ++ [k])).map List.length).sum = (M.map List.length).sum + 1
  | [], x, k, h => by simp at h
  | r :: M, 0, k, _ => by simp [mrow]; omega
  | r :: M, x + 1, k, h => by
    have ih := sum_set (M := M) (x := x) (k := k) (by simpa using h)
    have e : mrow (r :: M) (x + 1) = mrow M x := rfl
    rw [e, List.set_cons_succ, List.map_cons, List.map_cons, List.sum_cons, List.sum_cons, ih]; omega
/-- All items of the blocks, counted. -/
theorem blk_sum {L : List Int} (h : isPart L = true) : ∀ k, k ≤ L.length → ((blkTo L k).map List.length).sum = k
  | 0, _ => by simp [blkTo]
  | k + 1, hk => by
    have ih := blk_sum h k (by omega)
    obtain ⟨x, hx, hxl⟩ := blk_at h (k := k) (by omega)
    by_cases hnew : x = (blkTo L k).length
    · rw [blkTo_new (L := L) (k := k) (by rw [hx, hnew])]; simp [ih]
    · have hlt : x < (blkTo L k).length := by omega
      rw [blkTo_old hx hlt, sum_set hlt, ih]
/-! ### What the reference reads -/
def sput (i : Int) (p : List Int × Int) (c : UInt8) : List Int × Int :=
  if 0 ≤ (c.toNat : Int) - 48 ∧ (c.toNat : Int) - 48 ≤ 7 then (p.1.set (c.toNat - 48) i, max p.2 ((c.toNat : Int) - 48 + 1)) else p
def spc : Int → List (List UInt8) → List Int × Int → List Int × Int
  | _, [], p => p
  | i, q :: qs, p => spc (i + 1) qs (q.foldl (sput i) p)
def sdec (s : List UInt8) : List Int := let p := spc 0 ((cutL 124 s).take 8) (List.replicate 8 0, 0); p.1.take p.2.toNat
end Go.Sh

/-
  Strings cut at a byte: contracts.
-/
namespace Go.Sh
set_option linter.unusedSimpArgs false
set_option linter.unusedVariables false
open Go Go.Proofs

theorem Tryd.count_ok (s : List UInt8) (c : UInt8) : PCall Tryd.prog 63 [str s, str [c]] (.val (.int .i64 (s.count c))) := by
  refine ⟨⟨_, Tryd.func63, rfl, rfl⟩, fun w vs hl _ => ?_⟩
  simp only [LRel, VRel] at hl
  obtain ⟨v, rest, rfl, rfl, v2, rest2, rfl, rfl, rfl⟩ := hl
  refine (Tryd.strings_Count_one (sb s) c w).mono ?_
  rintro e w' ⟨rfl, rfl⟩
  refine ⟨_, rfl, RowKit.Below.refl _ _, ?_⟩
  simp only [VRel, sb_data]; rfl
theorem Tryd.index_ok (s : List UInt8) (c : UInt8) : PCall Tryd.prog 89 [str s, str [c]] (.val (.int .i64 (Lib.indexByte s c))) := by
  refine ⟨⟨_, Tryd.func89, rfl, rfl⟩, fun w vs hl _ => ?_⟩
  simp only [LRel, VRel] at hl
  obtain ⟨v, rest, rfl, rfl, v2, rest2, rfl, rfl, rfl⟩ := hl
  refine (Tryd.strings_Index_one (sb s) c w).mono ?_
  rintro e w' ⟨rfl, rfl⟩
  refine ⟨_, rfl, RowKit.Below.refl _ _, ?_⟩
  simp only [VRel, sb_data]
theorem cutL_idx (s : List UInt8) (c : UInt8) : (Lib.indexByte s c = -1 ∧ cutL c s = [s]) ∨ ∃ m : Nat, Lib.indexByte s c = m ∧ m < s.length ∧ cutL c s = s.take m :: cutL c (s.drop (m + 1)) := by
  have hge := Lib.indexByte_ge s c
  by_cases h : Lib.indexByte s c = -1
  · refine .inl ⟨h, cutL_last fun k hk e => ?_⟩
    refine Lib.indexByte_none h k ?_
    rw [List.getElem?_eq_getElem hk, ← e]; simp [hk]
  · obtain ⟨m, hm⟩ := Int.eq_ofNat_of_zero_le (a := Lib.indexByte s c) (by omega)
    obtain ⟨h1, h2⟩ := Lib.indexByte_some hm
    have hl : m < s.length := by
      rcases Nat.lt_or_ge m s.length with g | g
      · exact g
      · rw [List.getElem?_eq_none g] at h1; cases h1
    refine .inr ⟨m, hm, hl, cutL_first hl (by simpa [hl] using h1) fun k hk e => h2 k hk ?_⟩
    rw [List.getElem?_eq_getElem (by omega), ← e]; simp [show k < s.length by omega]
/-- What is cut, and what is left. -/
theorem count_drop (s : List UInt8) (c : UInt8) (h : 0 < s.count c) : ∃ m : Nat, Lib.indexByte s c = m ∧ m < s.length ∧ cutL c s = s.take m :: cutL c (s.drop (m + 1)) ∧ (s.drop (m + 1)).count c + 1 = s.count c := by
  rcases cutL_idx s c with ⟨_, e⟩ | ⟨m, h1, h2, h3⟩
  · have := cutL_len c s
    rw [e] at this
    simp at this; omega
  · refine ⟨m, h1, h2, h3, ?_⟩
    have g1 := cutL_len c s
    have g2 := cutL_len c (s.drop (m + 1))
    rw [h3, List.length_cons, g2] at g1
    omega
/-- The pieces in their places, empty strings behind them. -/
def slots (P : List (List UInt8)) (n : Nat) : List (List UInt8) := P ++ List.replicate (n - P.length) []
theorem slots_length {P : List (List UInt8)} {n : Nat} (h : P.length ≤ n) : (slots P n).length = n := by simp [slots]; omega
theorem slots_set {P : List (List UInt8)} {n : Nat} (x : List UInt8) (h : P.length < n) : (slots P n).set P.length x = slots (P ++ [x]) n := by
  rw [slots, slots, List.set_append_right _ _ (Nat.le_refl _), Nat.sub_self]
  have e : n - P.length = (n - (P ++ [x]).length) + 1 := by simp; omega
  rw [e, List.replicate_succ]; simp
theorem strs_vals (L : List (List UInt8)) : (strs L).all isVal = true := by simp [strs, isVal]
theorem fin_strs {L : List (List UInt8)} {b n cap : Nat} {ex e2 : Bool} {H : Heap} (hn : n = L.length) (hb : H.map b = some ⟨strs L, e2⟩) : Fin (FlatRes L.length 1 (strs L)) (.own b 0 n cap 1 ex) H := by
  subst hn
  obtain ⟨H2, h1, _, h3, h4⟩ := flat_fin (ex := ex) (cap := cap) (n := L.length) (z := 1) (by rw [strs_length, Nat.mul_one]) (strs_vals L) hb
  exact ⟨H2, h1, rfl, h3, h4⟩
theorem flat_viewS {L : List (List UInt8)} {r : SV} {H : Heap} (h : FlatRes L.length 1 (strs L) r H) : view H 1 r = some (rst L) := by
  obtain ⟨b, off, cap, ex, blk, rfl, h1, h2, h3, _⟩ := h
  rw [Nat.mul_one] at h2 h3
  simp only [Sh.view, h1, Nat.mul_one, h2, h3, if_true, viewL_strs, rst]
set_option maxHeartbeats 4000000 in
theorem Tryd.genSplit_f (s : List UInt8) (c : UInt8) (hs : s.length ≤ 1048576) : FCall Tryd.prog 90 [str s, str [c], .val (.int .i64 0), .val (.int .i64 (-1))] (FlatRes (cutL c s).length 1 (strs (cutL c s))) := by
  have w := Tryd.count_ok s c
  have hcl : s.count c ≤ s.length := List.count_le_length
  have hlen := cutL_len c s
  have hcn : ([c] == ([] : List UInt8)) = false := rfl
  generalize hN : s.count c = N at *
  refine FCall.of_body Tryd.func90 rfl (by kernel_rfl) (by simp [Tryd.ntmps90]) ?_
  refine SW_of_vc Tryd.mixed _ _ _ (by kernel_rfl) ?_
  simp (disch := omega) only [Tryd.ntmps90, Tryd.results90, go_sem, hcn]
  refine w.callV 0 (viewL_cons_of view_str (viewL_cons_of view_str viewL_nil_of)) ?_
  have hnat : ((N : Int) + 1).toNat = N + 1 := by omega
  have hsub : (N : Int) + 1 - 1 = N := by omega
  simp (disch := omega) only [Tryd.ntmps90, Tryd.results90, go_sem, hnat, hsub]
  refine LoopW.loop (fun p : Nat × List UInt8 × List (List UInt8) => ⟨ofL [(0, str p.2.1), (1, str [c]), (2, .val (.int .i64 0)), (3, .val (.int .i64 N)), (9, .own 0 0 (N + 1) (N + 1) 1 true), (10, .val (.int .i64 p.1))], hp [(0, ⟨strs (slots p.2.2 (N + 1)), true⟩)] 1⟩)
    (fun p => p.1 ≤ N ∧ p.2.2.length = p.1 ∧ cutL c s = p.2.2 ++ cutL c p.2.1 ∧ p.2.1.count c + p.1 = N ∧ p.2.1.length ≤ 1048576) (fun p => N - p.1) (0, s, []) ⟨by simp, rfl, rfl, by simpa using hN, hs⟩
    (Wk.of (by simp only [go_sem, ↓List.forall_mem_cons, List.not_mem_nil, false_implies, implies_true, and_true, true_and, and_self, ri_eq, Int.natCast_add, Int.cast_ofNat_Int]; try simp) (by simp only [slots, List.nil_append, List.length_nil, Nat.sub_zero, ← strs_replicate])) ?_
  rintro ⟨k, t, P⟩ ⟨hk, hP, hc, hcnt, ht⟩
  simp only at hk hP hc hcnt ht
  have hsl : (slots P (N + 1)).length = N + 1 := slots_length (by omega)
  refine SW_of_vc Tryd.mixed _ _ _ (by kernel_rfl) ?_
  by_cases hlt : k < N
  · obtain ⟨m, m1, m2, m3, m4⟩ := count_drop t c (by omega)
    have wi := Tryd.index_ok t c
    rw [m1] at wi
    have hset := slots_set (P := P) (n := N + 1) (t.take m) (by omega)
    rw [hP] at hset
    simp (disch := omega) only [Tryd.ntmps90, Tryd.results90, go_sem]
    refine wi.callV 0 (viewL_cons_of view_str (viewL_cons_of view_str viewL_nil_of)) ?_
    have t1 : ((m : Int) + 0).toNat = m := by omega
    have t2 : ((m : Int) + ((1 : Nat) : Int)).toNat = m + 1 := by omega
    have t3 : (t.drop (m + 1)).take (t.length - (m + 1)) = t.drop (m + 1) := List.take_of_length_le (by rw [List.length_drop]; exact Nat.le_refl _)
    simp (disch := omega) only [Tryd.ntmps90, Tryd.results90, go_sem, strs_length, strs_set, hsl, t1, t2, t3, hset]
    exact ⟨(k + 1, t.drop (m + 1), P ++ [t.take m]), ⟨hlt, by simp [hP], by rw [hc, m3]; simp, by simp only; omega, by simp only [List.length_drop]; omega⟩, by simp only; omega, Wk.of (by simp only [go_sem, ↓List.forall_mem_cons, List.not_mem_nil, false_implies, implies_true, and_true, true_and, and_self, ri_eq, Int.natCast_add, Int.cast_ofNat_Int]; try simp) rfl⟩
  · obtain rfl : k = N := by omega
    have hone : cutL c t = [t] := by
      rcases cutL_idx t c with ⟨_, e⟩ | ⟨m, h1, h2, h3⟩
      · exact e
      · have := cutL_len c t
        have g2 := cutL_len c (t.drop (m + 1))
        rw [h3, List.length_cons] at this
        omega
    have hset := slots_set (P := P) (n := k + 1) t (by omega)
    rw [hP] at hset
    have hall : slots (P ++ [t]) (k + 1) = cutL c s := by rw [hc, hone, slots]; simp [hP]
    rw [hall] at hset
    simp (disch := omega) only [Tryd.ntmps90, Tryd.results90, go_sem, strs_length, strs_set, hsl, hset, hnat]
    exact fin_strs hlen.symm (by first | rfl | (simp (disch := omega) only [hx_map, hp_map, xmap_blk, hmap_cons, xmap_skipI, xmap_nil, if_pos, if_neg, ↓reduceIte]; try rfl))
theorem Tryd.split_f (s : List UInt8) (c : UInt8) (hs : s.length ≤ 1048576) : FCall Tryd.prog 64 [str s, str [c]] (FlatRes (cutL c s).length 1 (strs (cutL c s))) := by
  have w := (Tryd.genSplit_f s c hs).one
  refine FCall.of_body Tryd.func64 rfl (by kernel_rfl) (by simp [Tryd.ntmps64]) ?_
  refine SW_of_vc Tryd.mixed _ _ _ (by kernel_rfl) ?_
  simp (disch := omega) only [Tryd.ntmps64, Tryd.results64, go_sem]
  refine w.callOne (strs_vals _) 0 (viewL_cons_of view_str (viewL_cons_of view_str (viewL_cons_of view_int (viewL_cons_of view_int viewL_nil_of)))) ?_
  simp (disch := omega) only [Tryd.ntmps64, Tryd.results64, go_sem]
  exact fin_strs rfl (by first | rfl | (simp (disch := omega) only [hx_map, hp_map, xmap_blk, hmap_cons, xmap_skipI, xmap_nil, if_pos, if_neg, ↓reduceIte]; try rfl))
theorem Tryd.split_ok (s : List UInt8) (c : UInt8) (hs : s.length ≤ 1048576) : PCall Tryd.prog 64 [str s, str [c]] (rst (cutL c s)) :=
  (Tryd.split_f s c hs).pcall 1 (fun _ _ h => flat_viewS h)
end Go.Sh

/-
  Strings cut at a byte: the reference.
-/
namespace Go.Sh
set_option linter.unusedSimpArgs false
set_option linter.unusedVariables false
open Go Go.Proofs

theorem drop_getD {s : List UInt8} {f i : Nat} (h : f ≤ i) : (s.drop f).getD (i - f) 0 = s.getD i 0 := by
  simp [List.getD, show f + (i - f) = i by omega]
theorem sb_ix {s : List UInt8} {i : Nat} (h : i < s.length) : (if h : 0 ≤ (i : Int) ∧ i < s.length then some (SV.val (.int .u8 ((sb s)[i]'(by rw [sb_size]; exact h.2)).toNat)) else none) = some (.val (.int .u8 (s.getD i 0).toNat)) := by
  rw [dif_pos ⟨by omega, h⟩]
  simp [sb, ByteArray.getElem_eq_getElem_data, h]
set_option maxHeartbeats 4000000 in
theorem Tryd.l2Cut_f (s : List UInt8) (c : UInt8) (hs : s.length ≤ 1048576) : FCall Tryd.prog 61 [str s, .val (.int .u8 c.toNat)] (FlatRes (cutL c s).length 1 (strs (cutL c s))) := by
  refine FCall.of_body Tryd.func61 rfl (by kernel_rfl) (by simp [Tryd.ntmps61]) ?_
  refine SW_of_vc Tryd.mixed _ _ _ (by kernel_rfl) ?_
  simp (disch := omega) only [Tryd.ntmps61, Tryd.results61, go_sem]
  refine LoopW.loop (fun p : Nat × Nat × List (List UInt8) × Nat × Nat => ⟨ofL [(0, str s), (1, .val (.int .u8 c.toNat)), (5, .own p.2.2.2.1 0 p.2.2.1.length p.2.2.1.length 1 false), (6, .val (.int .i64 p.2.1)), (7, .val (.int .i64 p.1))], hx [.blk p.2.2.2.1 ⟨strs p.2.2.1, false⟩] p.2.2.2.2⟩)
    (fun p => p.1 ≤ s.length ∧ p.2.1 ≤ p.1 ∧ p.2.2.1.length ≤ p.2.1 ∧ cutL c s = p.2.2.1 ++ cutL c (s.drop p.2.1) ∧ (∀ k, p.2.1 ≤ k → k < p.1 → s.getD k 0 ≠ c) ∧ p.2.2.2.1 < p.2.2.2.2) (fun p => s.length - p.1) (0, 0, [], 0, 1) ⟨by simp, by simp, by simp, rfl, fun k h1 h2 => by simp only at h2; omega, by simp⟩
    (Wk.ofX (by simp only [go_sem, ↓List.forall_mem_cons, List.not_mem_nil, false_implies, implies_true, and_true, true_and, and_self, ri_eq, Int.natCast_add, Int.cast_ofNat_Int]; try simp) (by simp [EntIn, hp, hmap, strs]) (by simp [hp])) ?_
  rintro ⟨i, f, P, ob, nb⟩ ⟨hi, hf, hPl, hc, hno, hob⟩
  simp only at hi hf hPl hc hno hob
  have hPs := strs_length P
  have hPt : (strs P).take P.length = strs P := List.take_of_length_le (by omega)
  refine SW_of_vc Tryd.mixed _ _ _ (by kernel_rfl) ?_
  by_cases hlt : i < s.length
  · by_cases he : s.getD i 0 = c
    · have hm : cutL c (s.drop f) = (s.drop f).take (i - f) :: cutL c (s.drop (i + 1)) := by
        have := cutL_first (c := c) (s := s.drop f) (m := i - f) (by rw [List.length_drop]; omega) (by rw [drop_getD hf]; exact he) (fun k hk => by
          have e := drop_getD (s := s) (f := f) (i := f + k) (by omega)
          rw [show f + k - f = k by omega] at e
          rw [e]; exact hno _ (by omega) (by omega))
        rw [this, List.drop_drop]
        congr 3; omega
      have hix := sb_ix hlt
      simp (disch := omega) only [Tryd.ntmps61, Tryd.results61, go_sem, hix, he, beq_self_eq_true, hPs, hPt, strs_snoc]
      have hl1 : (P ++ [(s.drop f).take (i - f)]).length = P.length + 1 := by simp
      refine ⟨(i + 1, i + 1, P ++ [(s.drop f).take (i - f)], nb + 1, nb + 1 + 1), ⟨hlt, Nat.le_refl _, by simp only; omega, by rw [hc, hm]; simp, fun k h1 h2 => by simp only at h1 h2; omega, by simp only; omega⟩, by simp only; omega, ?_⟩
      refine Wk.ofX (by simp only [go_sem, ↓List.forall_mem_cons, List.not_mem_nil, false_implies, implies_true, and_true, true_and, and_self, ri_eq, Int.natCast_add, Int.cast_ofNat_Int, hl1]; try simp) ?_ (Nat.le_refl _)
      simp only [List.forall_mem_cons]
      refine ⟨?_, by simp⟩
      simp (disch := omega) only [EntIn, hx_map, xmap_blk, if_pos, if_neg, ↓reduceIte]
    · have he2 : (((s.getD i 0).toNat : Int) == (c.toNat : Int)) = false := by
        rw [beq_eq_false_iff_ne]
        intro e
        exact he (UInt8.toNat_inj.1 (by exact_mod_cast e))
      have hix := sb_ix hlt
      simp (disch := omega) only [Tryd.ntmps61, Tryd.results61, go_sem, hix, he2]
      refine ⟨(i + 1, f, P, ob, nb), ⟨hlt, by simp only; omega, hPl, hc, fun k h1 h2 => ?_, hob⟩, by simp only; omega, Wk.of (by simp only [go_sem, ↓List.forall_mem_cons, List.not_mem_nil, false_implies, implies_true, and_true, true_and, and_self, ri_eq, Int.natCast_add, Int.cast_ofNat_Int]; try simp) rfl⟩
      simp only at h1 h2
      rcases Nat.lt_succ_iff_lt_or_eq.1 h2 with g | g
      · exact hno k h1 g
      · rw [g]; exact he
  · obtain rfl : i = s.length := by omega
    have t3 : (s.drop f).take (s.length - f) = s.drop f := List.take_of_length_le (by rw [List.length_drop]; exact Nat.le_refl _)
    have hlast : cutL c (s.drop f) = [s.drop f] := cutL_last fun k hk => by
      rw [List.length_drop] at hk
      have e := drop_getD (s := s) (f := f) (i := f + k) (by omega)
      rw [show f + k - f = k by omega] at e
      rw [e]; exact hno _ (by omega) (by omega)
    rw [hlast] at hc
    simp (disch := omega) only [Tryd.ntmps61, Tryd.results61, go_sem, hPs, hPt, t3, strs_snoc]
    rw [hc]
    exact fin_strs (by simp) (by first | rfl | (simp (disch := omega) only [hx_map, hp_map, xmap_blk, hmap_cons, xmap_skipI, xmap_nil, if_pos, if_neg, ↓reduceIte]; try rfl))
theorem Tryd.l2Cut_ok (s : List UInt8) (c : UInt8) (hs : s.length ≤ 1048576) : PCall Tryd.prog 61 [str s, .val (.int .u8 c.toNat)] (rst (cutL c s)) :=
  (Tryd.l2Cut_f s c hs).pcall 1 (fun _ _ h => flat_viewS h)
end Go.Sh

/-
  Partitions read back from their text: plain.
-/
namespace Go.Sh
set_option linter.unusedSimpArgs false
set_option linter.unusedVariables false
open Go Go.Proofs

theorem listExt {A B : List Int} (hl : A.length = B.length) (h : ∀ x, x < A.length → A.getD x 0 = B.getD x 0) : A = B := by
  refine List.ext_getElem hl fun i h1 h2 => ?_
  have := h i h1
  simpa [h1, h2] using this
theorem ch_nat {x : Nat} (h : x < 10) : (UInt8.ofNat (48 + x)).toNat = 48 + x := by
  rw [UInt8.toNat_ofNat']; omega
theorem fmtB_cons {x : Nat} (h : x < 10) (b : List Int) : fmtB ((x : Int) :: b) = UInt8.ofNat (48 + x) :: fmtB b := by
  rw [fmtB_eq, fmtB_eq, List.map_cons, itoa_small h, List.flatten_cons]; rfl
theorem fmtB_no {b : List Int} (h : ∀ y ∈ b, ∃ x : Nat, y = x ∧ x < 8) : (124 : UInt8) ∉ fmtB b ∧ (fmtB b).length = b.length := by
  induction b with
  | nil => exact ⟨by simp [fmtB, Lib.join_nil], rfl⟩
  | cons y b ih =>
    obtain ⟨x, rfl, hx⟩ := h y (by simp)
    obtain ⟨h1, h2⟩ := ih fun z hz => h z (by simp [hz])
    rw [fmtB_cons (by omega)]
    refine ⟨fun hm => ?_, by simp [h2]⟩
    rcases List.mem_cons.1 hm with e | hm
    · have := congrArg UInt8.toNat e
      rw [ch_nat (by omega)] at this
      simp at this; omega
    · exact h1 hm
/-- The blocks as they stand. -/
theorem part_blk {L : List Int} (h : isPart L = true) : (1 ≤ L.length ∧ L.length ≤ 8) ∧ (blkTo L L.length).length ≤ 8 ∧ 1 ≤ (blkTo L L.length).length ∧ (∀ b ∈ blkTo L L.length, ∀ y ∈ b, ∃ x : Nat, y = x ∧ x < 8) := by
  have hl : 1 ≤ L.length ∧ L.length ≤ 8 := by
    rw [isPart, Bool.and_eq_true] at h
    have := inR_of h.2; omega
  have h1 := blkTo_le L L.length
  have h2 : 1 ≤ (blkTo L L.length).length := by
    have := blkTo_len_mono L (j := 1) (k := L.length) hl.1
    have h3 : L.getD 0 0 < (blkTo L 1).length := blkTo_lt h (k := 0) (by omega)
    obtain ⟨x, hx, _⟩ := blk_at h (k := 0) (by omega)
    rw [hx] at h3
    omega
  refine ⟨hl, by omega, h2, fun b hb y hy => ?_⟩
  obtain ⟨i, hi, rfl⟩ := List.getElem_of_mem hb
  have := (blk_mem h L.length (Nat.le_refl _) i hi).2 y
  have e : mrow (blkTo L L.length) i = (blkTo L L.length)[i] := by simp [mrow, hi]
  rw [e] at this
  obtain ⟨x, x1, x2, _⟩ := this.1 hy
  exact ⟨x, x2, by omega⟩
theorem fmtP_cut {L : List Int} (h : isPart L = true) : cutL 124 (fmtP L) = (blkTo L L.length).map fmtB := by
  obtain ⟨_, _, h2, h3⟩ := part_blk h
  rw [fmtP, blocksOf_t h]
  generalize blkTo L L.length = B at *
  cases B with
  | nil => simp at h2
  | cons b B =>
    rw [List.map_cons]
    refine cutL_join fun q hq => ?_
    rw [← List.map_cons] at hq
    obtain ⟨c, hc, rfl⟩ := List.mem_map.1 hq
    exact (fmtB_no (h3 c hc)).1

/-- What is right of a list half read. -/
structure SInv (L : List Int) (p : List Int × Int) (D : Nat → Prop) : Prop where
  ln : p.1.length = 8
  n0 : 0 ≤ p.2
  n1 : p.2 ≤ L.length
  ok : ∀ x, D x → p.1.getD x 0 = L.getD x 0 ∧ (x : Int) < p.2
theorem SInv.put {L : List Int} {p : List Int × Int} {D : Nat → Prop} (h : SInv L p D) {x : Nat} {i : Int} (hx : x < L.length) (h8 : x < 8) (hi : L.getD x 0 = i) : SInv L (sput i p (UInt8.ofNat (48 + x))) (fun y => D y ∨ y = x) := by
  have e : sput i p (UInt8.ofNat (48 + x)) = (p.1.set x i, max p.2 ((x : Int) + 1)) := by
    rw [sput, ch_nat (by omega), if_pos (by omega)]
    congr 2
    · omega
    · omega
  rw [e]
  have := h.n0
  have := h.n1
  refine ⟨by simp [h.ln], by show 0 ≤ max p.2 ((x : Int) + 1); omega, by show max p.2 ((x : Int) + 1) ≤ L.length; omega, fun y hy => ?_⟩
  show (p.1.set x i).getD y 0 = L.getD y 0 ∧ (y : Int) < max p.2 ((x : Int) + 1)
  have hl := h.ln
  by_cases hyx : y = x
  · subst hyx
    refine ⟨?_, by omega⟩
    rw [← hi]; simp [hl, h8]
  · rcases hy with hy | hy
    · obtain ⟨h1, h2⟩ := h.ok y hy
      refine ⟨?_, by omega⟩
      rw [← h1]; simp [List.getElem?_set, Ne.symm hyx]
    · exact absurd hy hyx
theorem SInv.block {L : List Int} {i : Int} : ∀ {b : List Int} {p : List Int × Int} {D : Nat → Prop}, SInv L p D → (∀ y ∈ b, ∃ x : Nat, y = x ∧ x < L.length ∧ x < 8 ∧ L.getD x 0 = i) → SInv L ((fmtB b).foldl (sput i) p) (fun x => D x ∨ (x : Int) ∈ b)
  | [], p, D, h, _ => ⟨h.ln, h.n0, h.n1, fun x hx => h.ok x (by simpa using hx)⟩
  | y :: b, p, D, h, hb => by
    obtain ⟨x, rfl, h1, h2, h3⟩ := hb y (by simp)
    rw [fmtB_cons (by omega), List.foldl_cons]
    have := SInv.block (h.put h1 h2 h3) (b := b) (fun z hz => hb z (by simp [hz]))
    refine ⟨this.ln, this.n0, this.n1, fun z hz => this.ok z ?_⟩
    rcases hz with hz | hz
    · exact .inl (.inl hz)
    · rcases List.mem_cons.1 hz with hz | hz
      · exact .inl (.inr (by exact_mod_cast hz))
      · exact .inr hz
theorem SInv.blocks {L : List Int} : ∀ {B : List (List Int)} {i : Int} {p : List Int × Int} {D : Nat → Prop}, SInv L p D → (∀ j, j < B.length → ∀ y ∈ mrow B j, ∃ x : Nat, y = x ∧ x < L.length ∧ x < 8 ∧ L.getD x 0 = i + j) → SInv L (spc i (B.map fmtB) p) (fun x => D x ∨ ∃ j, j < B.length ∧ (x : Int) ∈ mrow B j)
  | [], i, p, D, h, _ => ⟨h.ln, h.n0, h.n1, fun x hx => h.ok x (by simpa using hx)⟩
  | b :: B, i, p, D, h, hb => by
    have h1 := SInv.block h (b := b) (i := i) (fun y hy => by
      obtain ⟨x, x1, x2, x3, x4⟩ := hb 0 (by simp) y hy
      exact ⟨x, x1, x2, x3, by simpa using x4⟩)
    have h2 := SInv.blocks (B := B) (i := i + 1) h1 (fun j hj y hy => by
      obtain ⟨x, x1, x2, x3, x4⟩ := hb (j + 1) (by simpa using hj) y hy
      exact ⟨x, x1, x2, x3, by rw [x4]; omega⟩)
    rw [List.map_cons, spc]
    refine ⟨h2.ln, h2.n0, h2.n1, fun z hz => h2.ok z ?_⟩
    rcases hz with hz | ⟨j, hj, hz⟩
    · exact .inl (.inl hz)
    · cases j with
      | zero => exact .inl (.inr hz)
      | succ j => exact .inr ⟨j, by simpa using hj, hz⟩
theorem SInv.all {L : List Int} {p : List Int × Int} {D : Nat → Prop} (h : SInv L p D) (hD : ∀ x, x < L.length → D x) (h1 : 1 ≤ L.length ∧ L.length ≤ 8) : p.1.take p.2.toNat = L := by
  have hn : p.2 = L.length := by
    have := (h.ok (L.length - 1) (hD _ (by omega))).2
    have := h.n1
    omega
  rw [hn, Int.toNat_natCast]
  refine listExt (by rw [List.length_take, h.ln]; omega) fun x hx => ?_
  have hx' : x < L.length := by rw [List.length_take, h.ln] at hx; omega
  rw [← (h.ok x (hD x hx')).1]
  simp [List.getElem?_take, hx']
theorem sdec_fmt {L : List Int} (h : isPart L = true) : sdec (fmtP L) = L := by
  obtain ⟨hl, h8, _, _⟩ := part_blk h
  have hm := fun i hi => (blk_mem h L.length (Nat.le_refl _) i hi).2
  have e8 : ((blkTo L L.length).map fmtB).take 8 = (blkTo L L.length).map fmtB := List.take_of_length_le (by rw [List.length_map]; exact h8)
  rw [sdec, fmtP_cut h, e8]
  have h0 : SInv L (List.replicate 8 0, 0) (fun _ => False) := ⟨by simp, by simp, by simp, fun x hx => hx.elim⟩
  have := SInv.blocks (B := blkTo L L.length) (i := 0) h0 (fun j hj y hy => by
    obtain ⟨x, x1, x2, x3⟩ := (hm j hj y).1 hy
    exact ⟨x, x2, x1, by omega, by rw [x3]; omega⟩)
  refine this.all (fun x hx => .inr ?_) hl
  obtain ⟨q, hq, _⟩ := blk_at h hx
  have hlt := blkTo_lt h hx
  have hmn := blkTo_len_mono L (j := x + 1) (k := L.length) (by omega)
  have hq2 : q < (blkTo L L.length).length := by omega
  exact ⟨q, hq2, (hm q hq2 _).2 ⟨x, hx, rfl, hq⟩⟩

/-! ### What the program reads -/
def iput (n : Nat) (i : Int) : List UInt8 → List Int → Option (List Int)
  | [], l => some l
  | c :: cs, l => if 0 ≤ (c.toNat : Int) - 48 ∧ (c.toNat : Int) - 48 ≤ (n : Int) - 1 then iput n i cs (l.set (c.toNat - 48) i) else none
def ipc (n : Nat) : Int → List (List UInt8) → List Int → Option (List Int)
  | _, [], l => some l
  | i, q :: qs, l => match iput n i q l with
    | some l => ipc n (i + 1) qs l
    | none => none
def idec (s : List UInt8) : Option (List Int) := if 16 < s.length then none else ipc (s.length - s.count 124) 0 (cutL 124 s) (List.replicate (s.length - s.count 124) 0)
def IOk (L l : List Int) (D : Nat → Prop) : Prop := l.length = L.length ∧ ∀ x, D x → l.getD x 0 = L.getD x 0
theorem IOk.block {L : List Int} {i : Int} : ∀ {b : List Int} {l : List Int} {D : Nat → Prop}, IOk L l D → (∀ y ∈ b, ∃ x : Nat, y = x ∧ x < L.length ∧ x < 8 ∧ L.getD x 0 = i) → ∃ l', iput L.length i (fmtB b) l = some l' ∧ IOk L l' (fun x => D x ∨ (x : Int) ∈ b)
  | [], l, D, h, _ => ⟨l, rfl, h.1, fun x hx => h.2 x (by simpa using hx)⟩
  | y :: b, l, D, h, hb => by
    obtain ⟨x, rfl, h1, h2, h3⟩ := hb y (by simp)
    rw [fmtB_cons (by omega), iput, ch_nat (by omega), if_pos (by omega), show 48 + x - 48 = x by omega]
    have hset : IOk L (l.set x i) (fun z => D z ∨ z = x) := by
      refine ⟨by rw [List.length_set]; exact h.1, fun z hz => ?_⟩
      by_cases hzx : z = x
      · subst hzx; rw [← h3]; simp [h.1, h1]
      · rcases hz with hz | hz
        · rw [← h.2 z hz]; simp [List.getElem?_set, Ne.symm hzx]
        · exact absurd hz hzx
    obtain ⟨l', e, g⟩ := IOk.block hset (b := b) (fun z hz => hb z (by simp [hz]))
    refine ⟨l', e, g.1, fun z hz => g.2 z ?_⟩
    rcases hz with hz | hz
    · exact .inl (.inl hz)
    · rcases List.mem_cons.1 hz with hz | hz
      · exact .inl (.inr (by exact_mod_cast hz))
      · exact .inr hz
theorem IOk.blocks {L : List Int} : ∀ {B : List (List Int)} {i : Int} {l : List Int} {D : Nat → Prop}, IOk L l D → (∀ j, j < B.length → ∀ y ∈ mrow B j, ∃ x : Nat, y = x ∧ x < L.length ∧ x < 8 ∧ L.getD x 0 = i + j) → ∃ l', ipc L.length i (B.map fmtB) l = some l' ∧ IOk L l' (fun x => D x ∨ ∃ j, j < B.length ∧ (x : Int) ∈ mrow B j)
  | [], i, l, D, h, _ => ⟨l, rfl, h.1, fun x hx => h.2 x (by simpa using hx)⟩
  | b :: B, i, l, D, h, hb => by
    obtain ⟨l1, e1, h1⟩ := IOk.block h (b := b) (i := i) (fun y hy => by
      obtain ⟨x, x1, x2, x3, x4⟩ := hb 0 (by simp) y hy
      exact ⟨x, x1, x2, x3, by simpa using x4⟩)
    obtain ⟨l2, e2, h2⟩ := IOk.blocks (B := B) (i := i + 1) h1 (fun j hj y hy => by
      obtain ⟨x, x1, x2, x3, x4⟩ := hb (j + 1) (by simpa using hj) y hy
      exact ⟨x, x1, x2, x3, by rw [x4]; omega⟩)
    refine ⟨l2, by rw [List.map_cons, ipc, e1]; exact e2, h2.1, fun z hz => h2.2 z ?_⟩
    rcases hz with hz | ⟨j, hj, hz⟩
    · exact .inl (.inl hz)
    · cases j with
      | zero => exact .inl (.inr hz)
      | succ j => exact .inr ⟨j, by simpa using hj, hz⟩
theorem join_len {c : UInt8} : ∀ {p : List UInt8} {ps : List (List UInt8)}, (∀ q ∈ p :: ps, c ∉ q) → (Lib.join (p :: ps) [c]).length = ((p :: ps).map List.length).sum + ps.length ∧ (Lib.join (p :: ps) [c]).count c = ps.length
  | p, [], h => by rw [Lib.join_one]; simp [List.count_eq_zero.2 (h p (by simp))]
  | p, q :: ps, h => by
    have e : Lib.join (p :: q :: ps) [c] = p ++ c :: Lib.join (q :: ps) [c] := by
      rw [Lib.join_cons, Lib.join_cons]; simp [Lib.joinTail]
    obtain ⟨h1, h2⟩ := join_len (c := c) (p := q) (ps := ps) (fun r hr => h r (List.mem_cons_of_mem _ hr))
    have h0 : p.count c = 0 := List.count_eq_zero.2 (h p (by simp))
    rw [e]
    constructor
    · rw [List.length_append, List.length_cons, h1]; simp; omega
    · rw [List.count_append, List.count_cons_self, h2, h0]; simp
theorem idec_fmt {L : List Int} (h : isPart L = true) : idec (fmtP L) = some L := by
  obtain ⟨hl, h8, h1, h3⟩ := part_blk h
  have hm := fun i hi => (blk_mem h L.length (Nat.le_refl _) i hi).2
  have hsum := blk_sum h L.length (Nat.le_refl _)
  have hlen : (fmtP L).length = L.length + ((blkTo L L.length).length - 1) ∧ (fmtP L).count 124 = (blkTo L L.length).length - 1 := by
    rw [fmtP, blocksOf_t h]
    generalize blkTo L L.length = B at *
    cases B with
    | nil => simp at h1
    | cons b B =>
      rw [List.map_cons]
      obtain ⟨j1, j2⟩ := join_len (c := 124) (p := fmtB b) (ps := B.map fmtB) (fun q hq => by
        rw [← List.map_cons] at hq
        obtain ⟨c, hc, rfl⟩ := List.mem_map.1 hq
        exact (fmtB_no (h3 c hc)).1)
      have e : ((fmtB b :: B.map fmtB).map List.length) = ((b :: B).map List.length) := by
        rw [← List.map_cons, List.map_map]
        exact List.map_congr_left fun c hc => (fmtB_no (h3 c hc)).2
      rw [j1, j2, e, hsum]
      simp
  have hn : (fmtP L).length - (fmtP L).count 124 = L.length := by omega
  rw [idec, if_neg (by omega), hn, fmtP_cut h]
  have h0 : IOk L (List.replicate L.length 0) (fun _ => False) := ⟨by simp, fun x hx => hx.elim⟩
  obtain ⟨l, e, g⟩ := IOk.blocks (B := blkTo L L.length) (i := 0) h0 (fun j hj y hy => by
    obtain ⟨x, x1, x2, x3⟩ := (hm j hj y).1 hy
    exact ⟨x, x2, x1, by omega, by rw [x3]; omega⟩)
  rw [e]
  congr 1
  refine listExt g.1 fun x hx => g.2 x (.inr ?_)
  rw [g.1] at hx
  obtain ⟨q, hq, _⟩ := blk_at h hx
  have hlt := blkTo_lt h hx
  have hmn := blkTo_len_mono L (j := x + 1) (k := L.length) (by omega)
  have hq2 : q < (blkTo L L.length).length := by omega
  exact ⟨q, hq2, (hm q hq2 _).2 ⟨x, hx, rfl, hq⟩⟩
theorem fmtP_part {L : List Int} (h : fmtP L ≠ []) : isPart L = true := by
  cases hp : isPart L with
  | true => rfl
  | false => exact absurd (fmtP_f hp) h

/-- What both give. -/
def pp (s : List UInt8) : List Int × Bool := if s ≠ [] ∧ fmtP (sdec s) = s then (sdec s, true) else ([], false)
theorem pp_t {s : List UInt8} {l : List Int} (h0 : s ≠ []) (h : fmtP l = s) : pp s = (l, true) := by
  have hp := fmtP_part (L := l) (by rw [h]; exact h0)
  have e : sdec s = l := by rw [← h]; exact sdec_fmt hp
  rw [pp, if_pos ⟨h0, by rw [e, h]⟩, e]
theorem pp_f {s : List UInt8} (h : ¬ (s ≠ [] ∧ fmtP (sdec s) = s)) : pp s = ([], false) := if_neg h
theorem pp_in {s : List UInt8} (h : idec s = none) : pp s = ([], false) := by
  refine pp_f fun ⟨h0, h1⟩ => ?_
  have hp := fmtP_part (L := sdec s) (by rw [h1]; exact h0)
  have := idec_fmt hp
  rw [h1, h] at this; cases this
theorem pp_is {s : List UInt8} {l : List Int} (h : idec s = some l) (hn : fmtP l ≠ s) : pp s = ([], false) := by
  refine pp_f fun ⟨h0, h1⟩ => ?_
  have hp := fmtP_part (L := sdec s) (by rw [h1]; exact h0)
  have := idec_fmt hp
  rw [h1, h] at this
  simp at this
  exact hn (by rw [this]; exact h1)
end Go.Sh

/-
  Contracts: the blocks of a partition. Of the program.
-/
namespace Go.Sh
set_option linter.unusedSimpArgs false
set_option linter.unusedVariables false
open Go Go.Proofs

def blkF (L : List Int) : Nat × List (Nat × List SV) × Nat × Nat → St
  | (0, _, _, nb) => ⟨ofL [(3, .val (.slice none 0 0)), (6, ri L), (7, .val (.int .i64 L.length)), (8, .val (.int .i64 0))], hp [] nb⟩
  | (k + 1, nr, ob, nb) => ⟨ofL [(3, .own ob 0 nr.length nr.length 1 false), (6, ri L), (7, .val (.int .i64 L.length)), (8, .val (.int .i64 ((k + 1 : Nat) : Int)))], hx [.blk ob ⟨outerN false nr, false⟩, .rows false nr] nb⟩

set_option maxHeartbeats 4000000 in
theorem Tryd.blocks_f (L : List Int) (hp1 : isPart L = true) : FCall Tryd.prog 52 [ri L] (MatRes (mi (blkTo L L.length))) := by
  obtain ⟨l1, l2⟩ := isPart_len hp1
  refine FCall.of_body Tryd.func52 rfl (by kernel_rfl) (by simp [Tryd.ntmps52]) ?_
  refine SW_of_vc Tryd.mixed _ _ _ (by kernel_rfl) ?_
  simp (disch := omega) only [Tryd.ntmps52, Tryd.results52, go_sem]
  refine LoopW.loop (blkF L) (fun p => p.1 ≤ L.length ∧ (0 < p.1 → NrOk p.2.2.1 p.2.2.2 p.2.1 ∧ p.2.1.map (·.2) = mi (blkTo L p.1))) (fun p => L.length - p.1) (0, [], 0, 0) ⟨by simp, by simp⟩ (Wk.of (by simp only [go_sem, ↓List.forall_mem_cons, List.not_mem_nil, false_implies, implies_true, and_true, true_and, and_self, ri_eq, Int.natCast_add, Int.cast_ofNat_Int]; try simp) rfl) ?_
  rintro ⟨k, nr, ob, nb⟩ ⟨hk, hinv⟩
  simp only at hk hinv
  refine SW_of_vc Tryd.mixed _ _ _ (by kernel_rfl) ?_
  cases k with
  | zero =>
    have hlt : 0 < L.length := by omega
    obtain ⟨x, hx, hxl⟩ := blk_at hp1 hlt
    have hx0 : x = 0 := by simp [blkTo] at hxl; exact hxl
    subst hx0
    have hn := blkTo_new (L := L) (k := 0) (by rw [hx]; rfl)
    have hb1 : blkTo L 1 = [[0]] := by rw [hn]; rfl
    have g1 := ints_get hlt
    rw [hx] at g1
    rw [blkF]
    simp (disch := omega) only [Tryd.ntmps52, Tryd.results52, go_sem, g1, Int.natCast_zero]
    refine ⟨(1, [(nb + 1 + 1 + 1, ints [0])], nb + 1, nb + 1 + 1 + 1 + 1), ⟨l1, fun _ => ⟨⟨by show nb + 1 < nb + 1 + 1 + 1 + 1; omega, by intro p hp; simp at hp; subst hp; simp only []; omega, by simp⟩, ?_⟩⟩, by show L.length - 1 < L.length; omega, ?_⟩
    · show [ints [0]] = mi (blkTo L 1)
      rw [hb1]; rfl
    · rw [blkF]
      refine Wk.ofX (by simp only [go_sem, ↓List.forall_mem_cons, List.not_mem_nil, false_implies, implies_true, and_true, true_and, and_self, ri_eq, Int.natCast_add, Int.cast_ofNat_Int, List.length_singleton]; try simp) ?_ (Nat.le_refl _)
      simp only [List.forall_mem_cons]
      refine ⟨?_, ?_, by simp⟩
      · simp (disch := omega) only [EntIn, hp_map, hmap_cons, if_pos, if_neg, ↓reduceIte]; rfl
      · intro p hp
        simp at hp
        subst hp
        simp (disch := omega) only [hp_map, hmap_cons, if_pos, if_neg, ↓reduceIte]; rfl
  | succ k =>
    obtain ⟨ho, hrows⟩ := hinv (by omega)
    have hob := ho.1
    have hnl := nr_len hrows
    have hol := outerN_length false nr
    have hot : (outerN false nr).take nr.length = outerN false nr := List.take_of_length_le (by omega)
    have hble := blkTo_le L (k + 1)
    rw [blkF]
    by_cases hlt : k + 1 < L.length
    · obtain ⟨x, hx, hxl⟩ := blk_at hp1 hlt
      have g1 := ints_get hlt
      rw [hx] at g1
      by_cases hnew : x = (blkTo L (k + 1)).length
      · have hxe : x = nr.length := by omega
        subst hxe
        have hn := blkTo_new (L := L) (k := k + 1) (by rw [hx, hnew])
        have hg2 : (outerN false nr ++ [SV.val (.slice none 0 0)])[nr.length]? = some (.val (.slice none 0 0)) := by rw [List.getElem?_append_right (by omega), hol]; simp
        have hs2 : ∀ nm, (outerN false nr ++ [SV.val (.slice none 0 0)]).set nr.length (.own nm 0 1 1 1 false) = outerN false (nr ++ [(nm, ints [((k + 1 : Nat) : Int)])]) := fun nm => by
          rw [outerN_snoc, List.set_append_right _ _ (by omega), hol, Nat.sub_self]; rfl
        simp (disch := omega) only [Tryd.ntmps52, Tryd.results52, go_sem, g1, hol, hot, hg2, hs2, List.length_append, List.length_singleton]
        refine ⟨(k + 1 + 1, nr ++ [(nb + 1 + 1 + 1, ints [((k + 1 : Nat) : Int)])], nb + 1, nb + 1 + 1 + 1 + 1), ⟨hlt, fun _ => ⟨ho.snoc (by omega) (by show nb ≤ nb + 1; omega) (by show nb + 1 + 1 + 1 ≠ nb + 1; omega) (by show nb + 1 + 1 + 1 < nb + 1 + 1 + 1 + 1; omega) (by show nb + 1 < nb + 1 + 1 + 1 + 1; omega), ?_⟩⟩, by show L.length - (k + 1 + 1) < L.length - (k + 1); omega, ?_⟩
        · show (nr ++ _).map (·.2) = mi (blkTo L (k + 1 + 1))
          rw [hn, List.map_append, hrows, mi_snoc]; rfl
        · rw [blkF]
          refine Wk.ofX (by simp only [go_sem, ↓List.forall_mem_cons, List.not_mem_nil, false_implies, implies_true, and_true, true_and, and_self, ri_eq, Int.natCast_add, Int.cast_ofNat_Int, List.length_append, List.length_singleton]; try simp) ?_ (Nat.le_refl _)
          simp only [List.forall_mem_cons]
          refine ⟨?_, ?_, by simp⟩
          · simp (disch := omega) only [EntIn, hx_map, xmap_blk, if_pos, if_neg, ↓reduceIte]
          · refine EntIn.snoc ?_ ?_
            · have hne : ∀ p ∈ nr, p.1 < nb ∧ p.1 ≠ ob := ho.2.1
              refine EntIn.skipR (EntIn.skipR (EntIn.skipR (EntIn.skipR (EntIn.skipC (EntIn.selfR ho.2.2) ?_) ?_) ?_) ?_) ?_
              all_goals
                intro p hp
                have := hne p hp
                omega
            · simp (disch := omega) only [hx_map, xmap_blk, if_pos, if_neg, ↓reduceIte]; rfl
      · have hxn : x < nr.length := by omega
        obtain ⟨hr1, hr2⟩ := nr_row hrows hxn
        have hold := blkTo_old hx hr2
        have hgo := outerN_get (fl := false) hxn
        have hgr := xmap_rowsAt (fl := false) (l := []) ho.2.2 hxn
        have hlt' := ho.2.1 _ (nrAt_mem hxn)
        have hrle := blkTo_row L (k + 1) x
        have hset := fun nm => outerN_set (fl := false) (nr := nr) (x := x) (nm := nm) (r := ints (mrow (blkTo L (k + 1)) x ++ [((k + 1 : Nat) : Int)])) rfl
        rw [hr1] at hgo hgr
        rw [ints_length, List.length_append, List.length_singleton] at hset
        rw [ints_length] at hgo
        generalize hnm : (nrAt nr x).1 = nm at *
        simp (disch := omega) only [Tryd.ntmps52, Tryd.results52, go_sem, g1, hol, hot, hgo, hgr, hset]
        refine ⟨(k + 1 + 1, nr.set x (nb + 1, ints (mrow (blkTo L (k + 1)) x ++ [((k + 1 : Nat) : Int)])), ob, nb + 1 + 1), ⟨hlt, fun _ => ⟨ho.set (by omega) (by show nb + 1 < nb + 1 + 1; omega), ?_⟩⟩, by show L.length - (k + 1 + 1) < L.length - (k + 1); omega, ?_⟩
        · show (nr.set x _).map (·.2) = mi (blkTo L (k + 1 + 1))
          rw [hold, List.map_set, hrows, mi_set]
        · rw [blkF]
          refine Wk.ofX (by simp only [go_sem, ↓List.forall_mem_cons, List.not_mem_nil, false_implies, implies_true, and_true, true_and, and_self, ri_eq, Int.natCast_add, Int.cast_ofNat_Int, List.length_set]; try simp) ?_ (Nat.le_refl _)
          simp only [List.forall_mem_cons]
          refine ⟨?_, ?_, by simp⟩
          · simp (disch := omega) only [EntIn, hx_map, xmap_blk, if_pos, if_neg, ↓reduceIte]
          · refine EntIn.setN (fun j hj hne => ?_) (by rw [hx_map, xmap_blk, if_pos rfl])
            have h1 := ho.2.1 _ (nrAt_mem hj)
            have h2 := nr_ne ho.2.2 hj hxn hne
            rw [hnm] at h2
            rw [hx_map, xmap_blk, if_neg (by omega), xmap_blk, if_neg (by omega), xmap_blk, if_neg (by omega), xmap_cut, if_neg (by omega)]
            exact xmap_rowsAt ho.2.2 hj
    · have hkl : k + 1 = L.length := by omega
      rw [hkl] at hrows
      have := fin_rows (H := hx [Ent.blk ob { cells := outerN false nr, ex := false }, Ent.rows false nr] nb) (R := mi (blkTo L L.length)) ho
        (fun p hp => mi_vals (blkTo L L.length) _ (by rw [← hrows]; exact List.mem_map_of_mem hp)) (by rw [hx_map, xmap_blk, if_pos rfl])
        (EntIn.skipR (EntIn.selfR ho.2.2) (fun p hp => (ho.2.1 p hp).2)) hrows.symm
      simp (disch := omega) only [Tryd.ntmps52, Tryd.results52, go_sem]
      exact this

def sblk (L : List Int) : List (List Int) := blocksOf L
end Go.Sh

/-
  Contracts: the rows and columns of some items. Of the program.
-/
namespace Go.Sh
set_option linter.unusedSimpArgs false
set_option linter.unusedVariables false
open Go Go.Proofs

/-- Strictly ascending numbers from 0 to n - 1, in the first k places. -/
def selTo (n : Int) (S : List Int) (k : Nat) : Prop := ∀ i, i < k → (0 ≤ S.getD i 0 ∧ S.getD i 0 ≤ n - 1) ∧ (0 < i → S.getD (i - 1) 0 < S.getD i 0)
def SelP (n : Int) (S : List Int) : Prop := selTo n S S.length
open Classical in
noncomputable def isSel (n : Int) (S : List Int) : Bool := decide (SelP n S)
open Classical in
theorem isSel_t {n : Int} {S : List Int} (h : SelP n S) : isSel n S = true := decide_eq_true h
open Classical in
theorem isSel_f {n : Int} {S : List Int} (h : ¬ SelP n S) : isSel n S = false := decide_eq_false h
theorem selTo_succ {n : Int} {S : List Int} {k : Nat} (h : selTo n S k) (h1 : 0 ≤ S.getD k 0 ∧ S.getD k 0 ≤ n - 1) (h2 : 0 < k → S.getD (k - 1) 0 < S.getD k 0) : selTo n S (k + 1) := by
  intro i hi
  rcases Nat.lt_succ_iff_lt_or_eq.1 hi with g | rfl
  · exact h i g
  · exact ⟨h1, h2⟩
theorem sel_not {n : Int} {S : List Int} {k : Nat} (hk : k < S.length) (h : ¬ ((0 ≤ S.getD k 0 ∧ S.getD k 0 ≤ n - 1) ∧ (0 < k → S.getD (k - 1) 0 < S.getD k 0))) : isSel n S = false := isSel_f fun g => h (g k hk)
theorem sel_len {n : Int} {S : List Int} (h : SelP n S) : ∀ i, i < S.length → (i : Int) ≤ S.getD i 0
  | 0, hi => by have := (h 0 hi).1.1; omega
  | i + 1, hi => by
    have := sel_len h i (by omega)
    have h2 := (h (i + 1) hi).2 (by omega)
    simp only [Nat.add_sub_cancel] at h2
    omega
theorem sel_length {n : Int} {S : List Int} (h : SelP n S) (hn : 0 ≤ n) : (S.length : Int) ≤ n := by
  by_cases h0 : S.length = 0
  · omega
  · have h1 := sel_len h (S.length - 1) (by omega)
    have h2 := (h (S.length - 1) (by omega)).1.2
    omega

def subM (M : List (List Int)) (S : List Int) : List (List Int) := genM S.length fun x y => mat M (S.getD x 0).toNat (S.getD y 0).toNat
theorem subM_length (M : List (List Int)) (S : List Int) : (subM M S).length = S.length := (genM_sq _ _).1
theorem subM_row {M : List (List Int)} {S : List Int} {i : Nat} (h : i < S.length) : (mrow (subM M S) i).length = S.length := (genM_sq _ _).2 i h

end Go.Sh

/-
  Contracts: the rows and columns of some items. Of the program and of the reference.
-/
namespace Go.Sh
set_option linter.unusedSimpArgs false
set_option linter.unusedVariables false
open Go Go.Proofs

open Classical in
noncomputable def sbm (M : List (List Int)) (S : List Int) : List (List Int) := if WM M ∧ SelP M.length S then subM M S else []
theorem sbm_t {M : List (List Int)} {S : List Int} (h : WM M ∧ SelP M.length S) : sbm M S = subM M S := by rw [sbm, if_pos h]
theorem sbm_f {M : List (List Int)} {S : List Int} (h : ¬ (WM M ∧ SelP M.length S)) : sbm M S = [] := by rw [sbm, if_neg h]

theorem fin_rows0 {b cap : Nat} {ex : Bool} {H : Heap} (h1 : H.map b = some ⟨[], false⟩) : Fin (MatRes (mi [])) (.own b 0 0 cap 1 ex) H := by
  have h : EntIn (hx [.mat b []] H.nb) (.mat b []) := .self
  refine fin_mat (R := mi []) ?_ (mi_vals _) rfl
  intro x hx1 hx2
  have : x = b := by simp [mi] at hx2; omega
  subst this
  rw [h1, matMap, if_pos rfl]; rfl
theorem take_snoc {α : Type} {R : List α} {l : List α} {a : α} (h : l = R.take l.length) (hl : l.length < R.length) (ha : R[l.length]? = some a) : l ++ [a] = R.take (l ++ [a]).length := by
  have e : (l ++ [a]).length = l.length + 1 := by simp
  rw [e, List.take_add_one, ha, ← h]; rfl

end Go.Sh

/-
  Contracts: the blocks of a partition. Of the reference.
-/
namespace Go.Sh
set_option linter.unusedSimpArgs false
set_option linter.unusedVariables false
open Go Go.Proofs

set_option maxHeartbeats 4000000 in
theorem Tryd.specBlocks_f (L : List Int) (hL : L.length ≤ 1048576) : FCall Tryd.prog 50 [ri L] (MatRes (mi (blocksOf L))) := by
  have w := Tryd.specIsPartition_ok L hL
  refine FCall.of_body Tryd.func50 rfl (by kernel_rfl) (by simp [Tryd.ntmps50]) ?_
  refine SW_of_vc2 (onD 7 [(30, 40), (35, 40), (37, 40), (30, 30)] []) Tryd.mixed _ _ _ (by kernel_rfl) ?_
  rcases Bool.eq_false_or_eq_true (isPart L) with hp1 | hp1
  case inr =>
    rw [hp1] at w
    rw [blocksOf_f hp1]
    simp (disch := omega) only [Tryd.ntmps50, Tryd.results50, go_sem]
    refine LoopW.loop (fun _ : Unit => ⟨ofL [(0, ri L), (3, .own 0 0 0 0 1 false), (4, .val (.int .i64 0))], hx [.blk 0 ⟨[], false⟩] 1⟩) (fun _ => True) (fun _ => 0) () trivial (Wk.ofX (by simp only [go_sem, ↓List.forall_mem_cons, List.not_mem_nil, false_implies, implies_true, and_true, true_and, and_self, ri_eq, Int.natCast_add, Int.cast_ofNat_Int]; try simp) (by simp [EntIn, hp, hmap]) (by simp [hp])) ?_
    rintro _ _
    refine SW_of_vc2 (onD 7 [(30, 40), (35, 40), (37, 40), (30, 30)] []) Tryd.mixed _ _ _ (by kernel_rfl) ?_
    by_cases h0 : 0 < L.length
    · simp (disch := omega) only [Tryd.ntmps50, Tryd.results50, go_sem]
      refine w.callV 0 (viewL_cons_of (view_rowL (by first | rfl | simp [marks_length, canon_length] | omega)) viewL_nil_of) ?_
      simp (disch := omega) only [Tryd.ntmps50, Tryd.results50, go_sem]
      exact fin_rows0 (by rw [hx_map, xmap_blk, if_pos rfl])
    · simp (disch := omega) only [Tryd.ntmps50, Tryd.results50, go_sem]
      exact fin_rows0 (by rw [hx_map, xmap_blk, if_pos rfl])
  obtain ⟨l1, l2⟩ := isPart_len hp1
  rw [hp1] at w
  rw [blocksOf_t hp1]
  simp (disch := omega) only [Tryd.ntmps50, Tryd.results50, go_sem]
  refine LoopW.loop (fun p : Nat × List (Nat × List SV) × Nat × Nat => ⟨ofL [(0, ri L), (3, .own p.2.2.1 0 p.2.1.length p.2.1.length 1 false), (4, .val (.int .i64 p.1))], hx [.blk p.2.2.1 ⟨outerN false p.2.1, false⟩, .rows false p.2.1] p.2.2.2⟩)
    (fun p => p.1 ≤ L.length ∧ NrOk p.2.2.1 p.2.2.2 p.2.1 ∧ p.2.1.map (·.2) = mi (blkTo L p.1)) (fun p => L.length - p.1) (0, [], 0, 1) ⟨by simp, .nil (by simp), rfl⟩ (Wk.ofX (by simp only [go_sem, ↓List.forall_mem_cons, List.not_mem_nil, false_implies, implies_true, and_true, true_and, and_self, ri_eq, Int.natCast_add, Int.cast_ofNat_Int]; try simp) (by simp [EntIn, outerN, hp, hmap]) (by simp [hp])) ?_
  rintro ⟨k, nr, ob, nb⟩ ⟨hk, ho, hrows⟩
  simp only at hk ho hrows
  have hob := ho.1
  have hnl := nr_len hrows
  have hol := outerN_length false nr
  have hot : (outerN false nr).take nr.length = outerN false nr := List.take_of_length_le (by omega)
  have hble := blkTo_le L k
  refine SW_of_vc2 (onD 7 [(30, 40), (35, 40), (37, 40), (30, 30)] []) Tryd.mixed _ _ _ (by kernel_rfl) ?_
  by_cases hlt : k < L.length
  · obtain ⟨x, hx, hxl⟩ := blk_at hp1 hlt
    have g1 := ints_get hlt
    rw [hx] at g1
    by_cases hnew : x = (blkTo L k).length
    · have hxe : x = nr.length := by omega
      subst hxe
      have hn := blkTo_new (L := L) (k := k) (by rw [hx, hnew])
      have hg2 : ∀ nm, (outerN false nr ++ [SV.own nm 0 0 0 1 false])[nr.length]? = some (.own nm 0 0 0 1 false) := fun nm => by rw [List.getElem?_append_right (by omega), hol]; simp
      have hs2 : ∀ nm nm', (outerN false nr ++ [SV.own nm' 0 0 0 1 false]).set nr.length (.own nm 0 1 1 1 false) = outerN false (nr ++ [(nm, ints [(k : Int)])]) := fun nm nm' => by
        rw [outerN_snoc, List.set_append_right _ _ (by omega), hol, Nat.sub_self]; rfl
      simp (disch := omega) only [Tryd.ntmps50, Tryd.results50, go_sem, g1]
      refine w.callV 0 (viewL_cons_of (view_rowL (by first | rfl | simp [marks_length, canon_length] | omega)) viewL_nil_of) ?_
      simp (disch := omega) only [Tryd.ntmps50, Tryd.results50, go_sem, g1, hol, hot, hg2, hs2, xdel_cut, List.length_append, List.length_singleton]
      refine ⟨(k + 1, nr ++ [(nb + 1 + 1 + 1 + 1, ints [(k : Int)])], nb + 1 + 1, nb + 1 + 1 + 1 + 1 + 1), ⟨hlt, ho.snoc (by omega) (by show nb ≤ nb + 1 + 1; omega) (by show nb + 1 + 1 + 1 + 1 ≠ nb + 1 + 1; omega) (by show nb + 1 + 1 + 1 + 1 < nb + 1 + 1 + 1 + 1 + 1; omega) (by show nb + 1 + 1 < nb + 1 + 1 + 1 + 1 + 1; omega), ?_⟩, by show L.length - (k + 1) < L.length - k; omega, ?_⟩
      · show (nr ++ _).map (·.2) = mi (blkTo L (k + 1))
        rw [hn, List.map_append, hrows, mi_snoc]; rfl
      · refine Wk.ofX (by simp only [go_sem, ↓List.forall_mem_cons, List.not_mem_nil, false_implies, implies_true, and_true, true_and, and_self, ri_eq, Int.natCast_add, Int.cast_ofNat_Int, List.length_append, List.length_singleton]; try simp) ?_ (Nat.le_refl _)
        simp only [List.forall_mem_cons]
        refine ⟨?_, ?_, by simp⟩
        · simp (disch := omega) only [EntIn, hx_map, xmap_blk, if_pos, if_neg, ↓reduceIte]
        · refine EntIn.snoc ?_ ?_
          · have hne : ∀ p ∈ nr, p.1 < nb ∧ p.1 ≠ ob := ho.2.1
            refine EntIn.skipR (EntIn.skipR (EntIn.skipR (EntIn.skipR (EntIn.skipC (EntIn.skipC (EntIn.selfR ho.2.2) ?_) ?_) ?_) ?_) ?_) ?_
            all_goals
              intro p hp
              have := hne p hp
              omega
          · simp (disch := omega) only [hx_map, xmap_blk, if_pos, if_neg, ↓reduceIte]; rfl
    · have hxn : x < nr.length := by omega
      obtain ⟨hr1, hr2⟩ := nr_row hrows hxn
      have hold := blkTo_old hx hr2
      have hgo := outerN_get (fl := false) hxn
      have hgr := xmap_rowsAt (fl := false) (l := []) ho.2.2 hxn
      have hlt' := ho.2.1 _ (nrAt_mem hxn)
      have hrle := blkTo_row L k x
      have hset := fun nm => outerN_set (fl := false) (nr := nr) (x := x) (nm := nm) (r := ints (mrow (blkTo L k) x ++ [(k : Int)])) rfl
      rw [hr1] at hgo hgr
      rw [ints_length, List.length_append, List.length_singleton] at hset
      rw [ints_length] at hgo
      generalize hnm : (nrAt nr x).1 = nm at *
      simp (disch := omega) only [Tryd.ntmps50, Tryd.results50, go_sem, g1]
      refine w.callV 0 (viewL_cons_of (view_rowL (by first | rfl | simp [marks_length, canon_length] | omega)) viewL_nil_of) ?_
      simp (disch := omega) only [Tryd.ntmps50, Tryd.results50, go_sem, g1, hol, hot, hgo, hgr, hset]
      refine ⟨(k + 1, nr.set x (nb + 1, ints (mrow (blkTo L k) x ++ [(k : Int)])), ob, nb + 1 + 1), ⟨hlt, ho.set (by omega) (by show nb + 1 < nb + 1 + 1; omega), ?_⟩, by show L.length - (k + 1) < L.length - k; omega, ?_⟩
      · show (nr.set x _).map (·.2) = mi (blkTo L (k + 1))
        rw [hold, List.map_set, hrows, mi_set]
      · refine Wk.ofX (by simp only [go_sem, ↓List.forall_mem_cons, List.not_mem_nil, false_implies, implies_true, and_true, true_and, and_self, ri_eq, Int.natCast_add, Int.cast_ofNat_Int, List.length_set]; try simp) ?_ (Nat.le_refl _)
        simp only [List.forall_mem_cons]
        refine ⟨?_, ?_, by simp⟩
        · simp (disch := omega) only [EntIn, hx_map, xmap_blk, if_pos, if_neg, ↓reduceIte]
        · refine EntIn.setN (fun j hj hne => ?_) (by rw [hx_map, xmap_blk, if_pos rfl])
          have h1 := ho.2.1 _ (nrAt_mem hj)
          have h2 := nr_ne ho.2.2 hj hxn hne
          rw [hnm] at h2
          rw [hx_map, xmap_blk, if_neg (by omega), xmap_blk, if_neg (by omega), xmap_blk, if_neg (by omega), xmap_cut, if_neg (by omega)]
          exact xmap_rowsAt ho.2.2 hj
  · have hkl : k = L.length := by omega
    rw [hkl] at hrows
    have := fin_rows (H := hx [Ent.blk ob { cells := outerN false nr, ex := false }, Ent.rows false nr] nb) (R := mi (blkTo L L.length)) ho
      (fun p hp => mi_vals (blkTo L L.length) _ (by rw [← hrows]; exact List.mem_map_of_mem hp)) (by rw [hx_map, xmap_blk, if_pos rfl])
      (EntIn.skipR (EntIn.selfR ho.2.2) (fun p hp => (ho.2.1 p hp).2)) hrows.symm
    simp (disch := omega) only [Tryd.ntmps50, Tryd.results50, go_sem]
    exact this
theorem Tryd.specBlocks_ok (L : List Int) (hL : L.length ≤ 1048576) : PCall Tryd.prog 50 [ri L] (rr (blocksOf L)) :=
  (Tryd.specBlocks_f L hL).mat.pcall 2 (fun _ _ h => h.viewI)
end Go.Sh

/-
  FormatPartition: contracts.
-/
namespace Go.Sh
set_option linter.unusedSimpArgs false
set_option linter.unusedVariables false
open Go Go.Proofs

theorem join_snoc (xs : List (List UInt8)) (y sep : List UInt8) (h : xs ≠ []) : Lib.join (xs ++ [y]) sep = Lib.join xs sep ++ sep ++ y := by
  cases xs with
  | nil => exact absurd rfl h
  | cons x r => rw [List.cons_append, Lib.join_cons, Lib.join_cons]; simp [Lib.joinTail]
def accP (M : List (List Int)) (i : Nat) : List UInt8 := Lib.join ((M.take i).map fmtB) [124]
theorem accP_zero (M : List (List Int)) : accP M 0 = [] := rfl
theorem accP_all (M : List (List Int)) : accP M M.length = Lib.join (M.map fmtB) [124] := by rw [accP, List.take_length]
theorem take_mrow {M : List (List Int)} {i : Nat} (h : i < M.length) : M.take (i + 1) = M.take i ++ [mrow M i] := by
  rw [List.take_add_one, List.getElem?_eq_getElem h]; simp [mrow, h]
theorem accP_one {M : List (List Int)} (h : 0 < M.length) : accP M 1 = fmtB (mrow M 0) := by
  rw [accP, take_mrow (i := 0) h, List.take_zero, List.nil_append, List.map_cons, List.map_nil, Lib.join_one]
theorem accP_succ {M : List (List Int)} {i : Nat} (h : i < M.length) (h0 : 0 < i) : accP M (i + 1) = accP M i ++ [124] ++ fmtB (mrow M i) := by
  rw [accP, take_mrow h, List.map_append, List.map_cons, List.map_nil, join_snoc _ _ _ (by
    intro e
    have := congrArg List.length e
    rw [List.length_map, List.length_take, List.length_nil] at this
    omega)]
  rfl
def accR (r : List Int) (k : Nat) : List UInt8 := fmtB (r.take k)
theorem accR_zero (r : List Int) : accR r 0 = [] := rfl
theorem accR_all (r : List Int) : accR r r.length = fmtB r := by rw [accR, List.take_length]
theorem accR_succ {r : List Int} {k : Nat} (h : k < r.length) : accR r (k + 1) = accR r k ++ Lib.itoa (r.getD k 0) := by
  rw [accR, accR, fmtB_eq, fmtB_eq, List.take_add_one, List.getElem?_eq_getElem h, List.map_append, List.flatten_append]
  simp [h]
/-- Few blocks, few items, small items. -/
structure BOk (M : List (List Int)) : Prop where
  ln : M.length ≤ 8
  row : ∀ i, (mrow M i).length ≤ 8
  it : ∀ i, i < M.length → ∀ y ∈ mrow M i, ∃ x : Nat, y = x ∧ x < 8
theorem BOk.of (L : List Int) : BOk (blocksOf L) := by
  cases h : isPart L with
  | false => rw [blocksOf_f h]; exact ⟨by simp, fun i => by simp [mrow], fun i hi => by simp at hi⟩
  | true =>
    obtain ⟨h1, h2, h3, h4⟩ := part_blk h
    rw [blocksOf_t h]
    refine ⟨h2, fun i => by have := blkTo_row L L.length i; omega, fun i hi => h4 _ ?_⟩
    simp [mrow, hi]
theorem BOk.accR_le {M : List (List Int)} (h : BOk M) {i : Nat} (hi : i < M.length) (k : Nat) : (accR (mrow M i) k).length ≤ 8 := by
  rw [accR, (fmtB_no fun y hy => h.it i hi y (List.mem_of_mem_take hy)).2, List.length_take]
  have := h.row i
  omega
theorem BOk.fmtB_le {M : List (List Int)} (h : BOk M) {i : Nat} (hi : i < M.length) : (fmtB (mrow M i)).length ≤ 8 := by
  rw [← accR_all]; exact h.accR_le hi _
theorem BOk.accP_le {M : List (List Int)} (h : BOk M) : ∀ {i : Nat}, i ≤ M.length → (accP M i).length ≤ 9 * i
  | 0, _ => by simp [accP_zero]
  | i + 1, hi => by
    have ih := h.accP_le (i := i) (by omega)
    have h8 := h.fmtB_le (i := i) (by omega)
    cases i with
    | zero => rw [accP_one (by omega)]; omega
    | succ i => rw [accP_succ (by omega) (by omega)]; simp; omega
theorem BOk.at {M : List (List Int)} (h : BOk M) {i k : Nat} (hi : i < M.length) (hk : k < (mrow M i).length) : ∃ x : Nat, (mrow M i).getD k 0 = x ∧ x < 8 := h.it i hi _ (by simp [hk])

set_option maxHeartbeats 4000000 in
theorem Tryd.specFP_ok (L : List Int) (hL : L.length ≤ 1048576) : PCall Tryd.prog 10 [ri L] (str (fmtP L)) := by
  have wB := Tryd.specBlocks_ok L hL
  have hB := BOk.of L
  have hfin : accP (blocksOf L) (blocksOf L).length = fmtP L := accP_all _
  refine FCall.pcall (R := fun r _ => r = str (fmtP L)) ?_ 0 (by rintro r H rfl; exact view_str)
  refine FCall.of_body Tryd.func10 rfl (by kernel_rfl) (by simp [Tryd.ntmps10]) ?_
  generalize blocksOf L = M at *
  have hln := hB.ln
  refine SW_of_vc Tryd.mixed _ _ _ (by kernel_rfl) ?_
  simp (disch := omega) only [Tryd.ntmps10, Tryd.results10, go_sem]
  refine wB.callV 0 (viewL_cons_of (view_row) viewL_nil_of) ?_
  simp (disch := omega) only [Tryd.ntmps10, Tryd.results10, go_sem]
  refine LoopW.loop (fun i : Nat => ⟨ofL [(3, rr M), (4, str (accP M i)), (5, .val (.int .i64 i))], hp [] 0⟩) (fun i => i ≤ M.length) (fun i => M.length - i) 0 (by omega) (Wk.of (by simp only [go_sem, ↓List.forall_mem_cons, List.not_mem_nil, false_implies, implies_true, and_true, true_and, and_self, ri_eq, Int.natCast_add, Int.cast_ofNat_Int, accP_zero]; try simp) rfl) ?_
  intro i hi
  refine SW_of_vc Tryd.mixed _ _ _ (by kernel_rfl) ?_
  have hal := hB.accP_le hi
  by_cases hlt : i < M.length
  · have hrow := hB.row i
    have hg := rows_get hlt
    generalize hrm : mrow M i = r at *
    by_cases h0 : i = 0
    · obtain ⟨pre, hpre⟩ : ∃ pre, accP M i = pre := ⟨_, rfl⟩
      have hnext : accP M (i + 1) = pre ++ accR r r.length := by
        subst h0
        rw [accP_one hlt, hrm, ← hpre, accP_zero, accR_all, List.nil_append]
      have hpl : pre.length ≤ 80 := by rw [← hpre]; omega
      simp (disch := omega) only [Tryd.ntmps10, Tryd.results10, go_sem, rr_eq, hg]
      refine LoopW.loop (fun k : Nat => ⟨ofL [(3, rr M), (4, str (pre ++ accR r k)), (5, .val (.int .i64 i)), (6, .val (.int .i64 k))], hp [] 0⟩) (fun k => k ≤ r.length) (fun k => r.length - k) 0 (by omega) (Wk.of (by simp only [go_sem, ↓List.forall_mem_cons, List.not_mem_nil, false_implies, implies_true, and_true, true_and, and_self, ri_eq, Int.natCast_add, Int.cast_ofNat_Int, rr_eq, hpre, accR_zero, List.append_nil]; try simp) rfl) ?_
      intro k hk
      refine SW_of_vc Tryd.mixed _ _ _ (by kernel_rfl) ?_
      have hrl := hB.accR_le hlt k
      rw [hrm] at hrl
      by_cases hkl : k < r.length
      · obtain ⟨x, hx, hx8⟩ := hB.at hlt (k := k) (by rw [hrm]; exact hkl)
        rw [hrm] at hx
        have g1 := ints_get hkl
        have hw := Tryd.specFI_ok (r.getD k 0) (by omega) (by omega)
        have hil := itoa_le (n := r.getD k 0) (by omega) (by omega)
        simp (disch := omega) only [Tryd.ntmps10, Tryd.results10, go_sem, rr_eq, hg, g1]
        refine hw.callV 0 (viewL_cons_of (view_int) viewL_nil_of) ?_
        simp (disch := omega) only [Tryd.ntmps10, Tryd.results10, go_sem, rr_eq, List.length_append]
        exact ⟨k + 1, by omega, by omega, Wk.of (by simp only [go_sem, ↓List.forall_mem_cons, List.not_mem_nil, false_implies, implies_true, and_true, true_and, and_self, ri_eq, Int.natCast_add, Int.cast_ofNat_Int, rr_eq, accR_succ hkl, List.append_assoc]; try simp) rfl⟩
      · obtain rfl : k = r.length := by omega
        simp (disch := omega) only [Tryd.ntmps10, Tryd.results10, go_sem, rr_eq, hg]
        exact ⟨i + 1, by omega, by omega, Wk.of (by simp only [go_sem, ↓List.forall_mem_cons, List.not_mem_nil, false_implies, implies_true, and_true, true_and, and_self, ri_eq, Int.natCast_add, Int.cast_ofNat_Int, rr_eq, hnext]; try simp) rfl⟩
    · obtain ⟨pre, hpre⟩ : ∃ pre, accP M i ++ [124] = pre := ⟨_, rfl⟩
      have hnext : accP M (i + 1) = pre ++ accR r r.length := by
        rw [accP_succ hlt (by omega), hrm, ← hpre, accR_all]
      have hpl : pre.length ≤ 80 := by rw [← hpre]; simp; omega
      simp (disch := omega) only [Tryd.ntmps10, Tryd.results10, go_sem, rr_eq, hg]
      refine LoopW.loop (fun k : Nat => ⟨ofL [(3, rr M), (4, str (pre ++ accR r k)), (5, .val (.int .i64 i)), (6, .val (.int .i64 k))], hp [] 0⟩) (fun k => k ≤ r.length) (fun k => r.length - k) 0 (by omega) (Wk.of (by simp only [go_sem, ↓List.forall_mem_cons, List.not_mem_nil, false_implies, implies_true, and_true, true_and, and_self, ri_eq, Int.natCast_add, Int.cast_ofNat_Int, rr_eq, hpre, accR_zero, List.append_nil]; try simp) rfl) ?_
      intro k hk
      refine SW_of_vc Tryd.mixed _ _ _ (by kernel_rfl) ?_
      have hrl := hB.accR_le hlt k
      rw [hrm] at hrl
      by_cases hkl : k < r.length
      · obtain ⟨x, hx, hx8⟩ := hB.at hlt (k := k) (by rw [hrm]; exact hkl)
        rw [hrm] at hx
        have g1 := ints_get hkl
        have hw := Tryd.specFI_ok (r.getD k 0) (by omega) (by omega)
        have hil := itoa_le (n := r.getD k 0) (by omega) (by omega)
        simp (disch := omega) only [Tryd.ntmps10, Tryd.results10, go_sem, rr_eq, hg, g1]
        refine hw.callV 0 (viewL_cons_of (view_int) viewL_nil_of) ?_
        simp (disch := omega) only [Tryd.ntmps10, Tryd.results10, go_sem, rr_eq, List.length_append]
        exact ⟨k + 1, by omega, by omega, Wk.of (by simp only [go_sem, ↓List.forall_mem_cons, List.not_mem_nil, false_implies, implies_true, and_true, true_and, and_self, ri_eq, Int.natCast_add, Int.cast_ofNat_Int, rr_eq, accR_succ hkl, List.append_assoc]; try simp) rfl⟩
      · obtain rfl : k = r.length := by omega
        simp (disch := omega) only [Tryd.ntmps10, Tryd.results10, go_sem, rr_eq, hg]
        exact ⟨i + 1, by omega, by omega, Wk.of (by simp only [go_sem, ↓List.forall_mem_cons, List.not_mem_nil, false_implies, implies_true, and_true, true_and, and_self, ri_eq, Int.natCast_add, Int.cast_ofNat_Int, rr_eq, hnext]; try simp) rfl⟩
  · obtain rfl : i = M.length := by omega
    simp (disch := omega) only [Tryd.ntmps10, Tryd.results10, go_sem, rr_eq]
    exact Fin.val (by rw [hfin])
end Go.Sh

/-
  FormatPartition of the program; the law walked.
-/
namespace Go.Sh
set_option linter.unusedSimpArgs false
set_option linter.unusedVariables false
open Go Go.Proofs

def fpF (M : List (List Int)) : Nat × Nat × Nat → St
  | (0, _, nb) => ⟨ofL [(3, .val (.slice none 0 0)), (10, rr M), (11, .val (.int .i64 M.length)), (12, .val (.int .i64 0))], hp [] nb⟩
  | (k + 1, ob, nb) => ⟨ofL [(3, .own ob 0 (k + 1) (k + 1) 1 false), (10, rr M), (11, .val (.int .i64 M.length)), (12, .val (.int .i64 ((k + 1 : Nat) : Int)))], hx [.blk ob ⟨strs ((M.map fmtB).take (k + 1)), false⟩] nb⟩
theorem strs_take_snoc {M : List (List Int)} {k : Nat} (h : k < M.length) : strs ((M.map fmtB).take k) ++ [.val (.string (sb (fmtB (mrow M k))))] = strs ((M.map fmtB).take (k + 1)) := by
  rw [strs_snoc, ← List.map_take, ← List.map_take, take_mrow h]; simp

set_option maxHeartbeats 4000000 in
theorem Tryd.implFP_ok (L : List Int) (hL : L.length ≤ 1048576) : PCall Tryd.prog 12 [ri L] (str (fmtP L)) := by
  have w := Tryd.implIsPartition_ok L hL
  refine FCall.pcall (R := fun r _ => r = str (fmtP L)) ?_ 0 (by rintro r H rfl; exact view_str)
  refine FCall.of_body Tryd.func12 rfl (by kernel_rfl) (by simp [Tryd.ntmps12]) ?_
  refine SW_of_vc Tryd.mixed _ _ _ (by kernel_rfl) ?_
  rcases Bool.eq_false_or_eq_true (isPart L) with h | h
  case inr =>
    rw [h] at w
    simp (disch := omega) only [Tryd.ntmps12, Tryd.results12, go_sem]
    refine w.callV 0 (viewL_cons_of (view_rowL (by first | rfl | simp [marks_length, canon_length] | omega)) viewL_nil_of) ?_
    simp (disch := omega) only [Tryd.ntmps12, Tryd.results12, go_sem]
    exact Fin.val (by rw [fmtP_f h])
  rw [h] at w
  have wB : PCall Tryd.prog 52 [ri L] (rr (blocksOf L)) := by
    rw [blocksOf_t h]; exact (Tryd.blocks_f L h).mat.pcall 2 (fun _ _ h => h.viewI)
  have hB := BOk.of L
  have hfin : Lib.join ((blocksOf L).map fmtB) [124] = fmtP L := rfl
  have hJl : (fmtP L).length ≤ 140737488355328 := by
    rw [← hfin, ← accP_all]
    have := hB.accP_le (Nat.le_refl _)
    have := hB.ln
    omega
  generalize blocksOf L = M at *
  have hln := hB.ln
  have hJ := Tryd.strJoin_ok (M.map fmtB) [124] (by simp; omega) (by rw [hfin]; exact hJl)
  rw [hfin] at hJ
  simp (disch := omega) only [Tryd.ntmps12, Tryd.results12, go_sem]
  refine w.callV 0 (viewL_cons_of (view_rowL (by first | rfl | simp [marks_length, canon_length] | omega)) viewL_nil_of) ?_
  simp (disch := omega) only [Tryd.ntmps12, Tryd.results12, go_sem]
  refine wB.callV 0 (viewL_cons_of (view_rowL (by first | rfl | simp [marks_length, canon_length] | omega)) viewL_nil_of) ?_
  simp (disch := omega) only [Tryd.ntmps12, Tryd.results12, go_sem, rr_eq]
  refine LoopW.loop (fpF M) (fun p => p.1 ≤ M.length ∧ (0 < p.1 → p.2.1 < p.2.2)) (fun p => M.length - p.1) (0, 0, 0) (by simp) (Wk.of (by simp only [go_sem, ↓List.forall_mem_cons, List.not_mem_nil, false_implies, implies_true, and_true, true_and, and_self, ri_eq, Int.natCast_add, Int.cast_ofNat_Int, rr_eq]; try simp) rfl) ?_
  rintro ⟨k, ob, nb⟩ ⟨hk, hob⟩
  simp only at hk hob
  refine SW_of_vc Tryd.mixed _ _ _ (by kernel_rfl) ?_
  by_cases hlt : k < M.length
  · have hrow := hB.row k
    have hg := rows_get hlt
    have hsn := strs_take_snoc hlt
    have hal := hB.accR_le hlt (mrow M k).length
    rw [accR_all] at hal
    have wJ : PCall Tryd.prog 53 [ri (mrow M k), str []] (str (fmtB (mrow M k))) := Tryd.joinInts_ok (mrow M k) [] (by omega) (fun i hi => by
      obtain ⟨x, hx, hx8⟩ := hB.at hlt hi
      rw [hx]
      exact Tryd.implFIs_ok x (by omega)) (by show (fmtB (mrow M k)).length ≤ _; omega)
    generalize mrow M k = r at *
    cases k with
    | zero =>
      rw [fpF]
      rw [List.take_zero, strs_nil, List.nil_append] at hsn
      simp (disch := omega) only [Tryd.ntmps12, Tryd.results12, go_sem, rr_eq, hg, Int.natCast_zero]
      refine wJ.callV 0 (viewL_cons_of (view_rowL rfl) (viewL_cons_of view_str viewL_nil_of)) ?_
      simp (disch := omega) only [Tryd.ntmps12, Tryd.results12, go_sem, rr_eq]
      refine ⟨(1, nb + 1, nb + 1 + 1), ⟨hlt, fun _ => by show nb + 1 < nb + 1 + 1; omega⟩, by show M.length - 1 < M.length; omega, ?_⟩
      rw [fpF, ← hsn]
      refine Wk.ofX (by simp only [go_sem, ↓List.forall_mem_cons, List.not_mem_nil, false_implies, implies_true, and_true, true_and, and_self, ri_eq, Int.natCast_add, Int.cast_ofNat_Int, rr_eq]; try simp) ?_ (Nat.le_refl _)
      simp only [List.forall_mem_cons]
      refine ⟨?_, by simp⟩
      simp (disch := omega) only [EntIn, hp_map, hmap_cons, if_pos, if_neg, ↓reduceIte]
    | succ k =>
      rw [fpF]
      simp (disch := omega) only [Tryd.ntmps12, Tryd.results12, go_sem, rr_eq, hg]
      refine wJ.callV 0 (viewL_cons_of (view_rowL rfl) (viewL_cons_of view_str viewL_nil_of)) ?_
      have hob := hob (by omega)
      have hsl : (strs ((M.map fmtB).take (k + 1))).length = k + 1 := by rw [strs_length, List.length_take, List.length_map]; omega
      have hst : (strs ((M.map fmtB).take (k + 1))).take (k + 1) = strs ((M.map fmtB).take (k + 1)) := List.take_of_length_le (by omega)
      simp (disch := omega) only [Tryd.ntmps12, Tryd.results12, go_sem, rr_eq, hsn, hsl, hst]
      refine ⟨(k + 1 + 1, nb + 1, nb + 1 + 1), ⟨hlt, fun _ => by show nb + 1 < nb + 1 + 1; omega⟩, by show M.length - (k + 1 + 1) < M.length - (k + 1); omega, ?_⟩
      rw [fpF]
      refine Wk.ofX (by simp only [go_sem, ↓List.forall_mem_cons, List.not_mem_nil, false_implies, implies_true, and_true, true_and, and_self, ri_eq, Int.natCast_add, Int.cast_ofNat_Int, rr_eq]; try simp) ?_ (Nat.le_refl _)
      simp only [List.forall_mem_cons]
      refine ⟨?_, by simp⟩
      simp (disch := omega) only [EntIn, hx_map, xmap_blk, if_pos, if_neg, ↓reduceIte]
  · obtain rfl : k = M.length := by omega
    cases hM : M.length with
    | zero =>
      obtain rfl : M = [] := List.length_eq_zero_iff.1 hM
      rw [fpF]
      simp (disch := omega) only [Tryd.ntmps12, Tryd.results12, go_sem, List.length_nil, Int.natCast_zero]
      refine hJ.callV 2 (viewL_cons_of view_nilS (viewL_cons_of view_str viewL_nil_of)) ?_
      simp (disch := omega) only [Tryd.ntmps12, Tryd.results12, go_sem]
      exact Fin.val rfl
    | succ k =>
      have htk : (M.map fmtB).take (k + 1) = M.map fmtB := List.take_of_length_le (by simp; omega)
      rw [fpF, htk]
      simp (disch := omega) only [Tryd.ntmps12, Tryd.results12, go_sem]
      refine hJ.callV 2 (viewL_cons_of (view_ownS (e2 := false) (L := M.map fmtB) (by first | rfl | (simp (disch := omega) only [hx_map, hp_map, xmap_blk, hmap_cons, xmap_skipI, xmap_nil, if_pos, if_neg, ↓reduceIte]; try rfl)) (by simp; omega)) (viewL_cons_of view_str viewL_nil_of)) ?_
      simp (disch := omega) only [Tryd.ntmps12, Tryd.results12, go_sem]
      exact Fin.val rfl

set_option maxHeartbeats 4000000 in
theorem Tryd.exactFormatPartition_ok (L : List Int) : PCall Tryd.prog 3 [ri L] (.val (.bool true)) := by
  refine FCall.pcall (R := fun r _ => r = .val (.bool true)) ?_ 0 (by rintro r H rfl; exact view_bool)
  refine FCall.of_body Tryd.func3 rfl (by kernel_rfl) (by simp [Tryd.ntmps3]) ?_
  refine SW_of_vc Tryd.mixed _ _ _ (by kernel_rfl) ?_
  by_cases sL : 1048576 < L.length
  · simp (disch := omega) only [Tryd.ntmps3, Tryd.results3, go_sem]
    exact Fin.val rfl
  have hL : L.length ≤ 1048576 := by omega
  have wS := Tryd.specFP_ok L hL
  have wI := Tryd.implFP_ok L hL
  simp (disch := omega) only [Tryd.ntmps3, Tryd.results3, go_sem]
  refine (Tryd.toIntS_ok L hL).callV 0 (viewL_cons_of (view_row) viewL_nil_of) ?_
  simp (disch := omega) only [Tryd.ntmps3, Tryd.results3, go_sem]
  refine wS.callV 0 (viewL_cons_of (view_row) viewL_nil_of) ?_
  simp (disch := omega) only [Tryd.ntmps3, Tryd.results3, go_sem]
  refine (Tryd.toIntS_ok L hL).callV 0 (viewL_cons_of (view_row) viewL_nil_of) ?_
  simp (disch := omega) only [Tryd.ntmps3, Tryd.results3, go_sem]
  refine wI.callV 0 (viewL_cons_of (view_row) viewL_nil_of) ?_
  simp (disch := omega) only [Tryd.ntmps3, Tryd.results3, go_sem, beq_self_eq_true, Bool.not_true]
  refine (Tryd.toIntS_ok L hL).callV 0 (viewL_cons_of (view_row) viewL_nil_of) ?_
  simp (disch := omega) only [Tryd.ntmps3, Tryd.results3, go_sem]
  refine (Tryd.eqIntS_ok L L (by omega) (by omega)).callV 0 (viewL_cons_of (view_row) (viewL_cons_of (view_row) viewL_nil_of)) ?_
  simp (disch := omega) only [Tryd.ntmps3, Tryd.results3, go_sem, decide_true, beq_self_eq_true]
  exact Fin.val rfl
end Go.Sh

/-
  ParsePartition of the reference.
-/
namespace Go.Sh
set_option linter.unusedSimpArgs false
set_option linter.unusedVariables false
open Go Go.Proofs

theorem view_tupB {L : List Int} {n : Nat} {u : Bool} {r r0 : SV} {H : Heap} (h : r = .tup [r0, .val (.bool u)]) (hf : FlatRes n 1 (ints L) r0 H) : view H 3 r = some (.tup [ri L, .val (.bool u)]) := by
  subst h
  have h1 : viewL H 2 [r0, .val (.bool u)] = some [ri L, .val (.bool u)] := viewL_cons_of (flat_view hf) (viewL_cons_of view_bool viewL_nil_of)
  simp only [view, h1]
theorem spc_snoc : ∀ (i : Int) (qs : List (List UInt8)) (q : List UInt8) (p : List Int × Int), spc i (qs ++ [q]) p = q.foldl (sput (i + qs.length)) (spc i qs p)
  | i, [], q, p => by simp [spc]
  | i, r :: qs, q, p => by
    rw [List.cons_append, spc, spc, spc_snoc (i + 1) qs q]
    congr 2
    rw [List.length_cons]; omega
/-- Eight places, of which some are used. -/
def P8 (p : List Int × Int) : Prop := p.1.length = 8 ∧ 0 ≤ p.2 ∧ p.2 ≤ 8
theorem P8.put {p : List Int × Int} (h : P8 p) (i : Int) (c : UInt8) : P8 (sput i p c) := by
  rw [sput]
  split
  · obtain ⟨h1, h2, h3⟩ := h
    exact ⟨by simp [h1], by simp only; omega, by simp only; omega⟩
  · exact h
theorem P8.fold {i : Int} : ∀ {q : List UInt8} {p : List Int × Int}, P8 p → P8 (q.foldl (sput i) p)
  | [], _, h => h
  | c :: q, _, h => P8.fold (q := q) (h.put i c)
theorem P8.spc : ∀ {qs : List (List UInt8)} {i : Int} {p : List Int × Int}, P8 p → P8 (spc i qs p)
  | [], _, _, h => h
  | q :: qs, i, _, h => P8.spc (qs := qs) (i := i + 1) (h.fold (i := i) (q := q))
theorem P8.zero : P8 (List.replicate 8 0, 0) := ⟨by simp, by simp, by simp⟩
def spAt (s : List UInt8) (i : Nat) : List Int × Int := spc 0 ((cutL 124 s).take i) (List.replicate 8 0, 0)
def spIn (s : List UInt8) (i k : Nat) : List Int × Int := (((cutL 124 s).getD i []).take k).foldl (sput i) (spAt s i)
theorem spAt8 (s : List UInt8) (i : Nat) : P8 (spAt s i) := P8.zero.spc
theorem spIn8 (s : List UInt8) (i k : Nat) : P8 (spIn s i k) := (spAt8 s i).fold
theorem spAt_zero (s : List UInt8) : spAt s 0 = (List.replicate 8 0, 0) := rfl
theorem spIn_zero (s : List UInt8) (i : Nat) : spIn s i 0 = spAt s i := rfl
theorem spIn_succ (s : List UInt8) {i k : Nat} (h : k < ((cutL 124 s).getD i []).length) : spIn s i (k + 1) = sput i (spIn s i k) (((cutL 124 s).getD i []).getD k 0) := by
  rw [spIn, List.take_add_one, List.getElem?_eq_getElem h, List.foldl_append]
  simp only [Option.toList_some, List.foldl_cons, List.foldl_nil]
  have e : ((cutL 124 s).getD i [])[k] = ((cutL 124 s).getD i []).getD k 0 := by
    generalize (cutL 124 s).getD i [] = q at *
    simp [List.getD, h]
  rw [e]; rfl
theorem spIn_all (s : List UInt8) {i : Nat} (h : i < (cutL 124 s).length) : spIn s i ((cutL 124 s).getD i []).length = spAt s (i + 1) := by
  have e : (cutL 124 s).take (i + 1) = (cutL 124 s).take i ++ [(cutL 124 s).getD i []] := by
    rw [List.take_add_one, List.getElem?_eq_getElem h]; simp [List.getD, h]
  rw [spIn, List.take_length, spAt, spAt, e, spc_snoc]
  congr 2
  rw [List.length_take]; omega
theorem sdec_at (s : List UInt8) {i : Nat} (h : i = 8 ∨ i = (cutL 124 s).length ∧ i ≤ 8) : sdec s = (spAt s i).1.take (spAt s i).2.toNat := by
  have e : (cutL 124 s).take 8 = (cutL 124 s).take i := by
    rcases h with h | ⟨h1, h2⟩
    · rw [h]
    · rw [h1, List.take_length, List.take_of_length_le (by omega)]
  rw [sdec, e]; rfl
theorem cutL_part (c : UInt8) : ∀ (s : List UInt8), ∀ q ∈ cutL c s, q.length ≤ s.length
  | [], q, h => by simp [cutL] at h; subst h; simp
  | x :: s, q, h => by
    rw [cutL] at h
    have ih := cutL_part c s
    split at h
    · rcases List.mem_cons.1 h with rfl | h
      · simp
      · have := ih q h; simp; omega
    · obtain ⟨p, ps, e⟩ := cutL_ne c s
      rw [e] at h ih
      rcases List.mem_cons.1 h with rfl | h
      · have := ih p (by simp); simp; omega
      · have := ih q (List.mem_cons_of_mem _ h); simp; omega

def PPRes (s : List UInt8) (r : SV) (H : Heap) : Prop := ∃ r0, r = .tup [r0, .val (.bool (pp s).2)] ∧ FlatRes (pp s).1.length 1 (ints (pp s).1) r0 H
theorem pp_end {s : List UInt8} {l : List Int} {u : Bool} {b n cap : Nat} {ex e2 : Bool} {H : Heap} (hpp : pp s = (l, u)) (hn : n = l.length) (hb : H.map b = some ⟨ints l, e2⟩) : Fin (PPRes s) (.tup [.own b 0 n cap 1 ex, .val (.bool u)]) H := by
  subst hn
  have hR : PPRes s = fun r H => ∃ r0, r = .tup [r0, .val (.bool u)] ∧ FlatRes l.length 1 (ints l) r0 H := by funext r H; rw [PPRes, hpp]
  rw [hR]
  exact fin_tup (by rw [ints_length, Nat.mul_one]) (ints_vals _) hb
set_option maxHeartbeats 16000000 in
theorem Tryd.specPP_f (s : List UInt8) (hs : s.length ≤ 1048576) : FCall Tryd.prog 24 [str s] (PPRes s) := by
  have wc : PCall Tryd.prog 61 [str s, .val (.int .u8 124)] (rst (cutL 124 s)) := Tryd.l2Cut_ok s 124 hs
  have hcl := cutL_len 124 s
  have hcc : s.count 124 ≤ s.length := List.count_le_length
  refine FCall.of_body Tryd.func24 rfl (by kernel_rfl) (by simp [Tryd.ntmps24]) ?_
  refine SW_of_vc Tryd.mixed _ _ _ (by kernel_rfl) ?_
  simp (disch := omega) only [Tryd.ntmps24, Tryd.results24, go_sem]
  refine wc.callV 0 (viewL_cons_of view_str (viewL_cons_of view_int viewL_nil_of)) ?_
  simp (disch := omega) only [Tryd.ntmps24, Tryd.results24, go_sem]
  refine LoopW.loop (fun i : Nat => ⟨ofL [(0, str s), (4, .own 0 0 8 8 1 true), (5, .val (.int .i64 (spAt s i).2)), (6, rst (cutL 124 s)), (7, .val (.int .i64 i))], hp [(0, ⟨ints (spAt s i).1, true⟩)] 1⟩)
    (fun i => i ≤ (cutL 124 s).length ∧ i ≤ 8) (fun i => 8 - i) 0 (by simp) (Wk.of (by simp only [go_sem, ↓List.forall_mem_cons, List.not_mem_nil, false_implies, implies_true, and_true, true_and, and_self, ri_eq, Int.natCast_add, Int.cast_ofNat_Int, rst, spAt_zero]; try simp) (by rw [spAt_zero])) ?_
  intro i ⟨hi, hi8⟩
  have h8 := spAt8 s i
  refine SW_of_vc Tryd.mixed _ _ _ (by kernel_rfl) ?_
  by_cases hlt : i < (cutL 124 s).length ∧ i < 8
  · obtain ⟨hlt, hlt8⟩ := hlt
    have hg := strs_get hlt
    have hql : ((cutL 124 s).getD i []).length ≤ s.length := cutL_part 124 s _ (by simp [List.getD, hlt])
    have hnext := spIn_all s hlt
    simp (disch := omega) only [Tryd.ntmps24, Tryd.results24, go_sem, rst, hg]
    refine LoopW.loop (fun k : Nat => ⟨ofL [(0, str s), (4, .own 0 0 8 8 1 true), (5, .val (.int .i64 (spIn s i k).2)), (6, rst (cutL 124 s)), (7, .val (.int .i64 i)), (8, .val (.int .i64 k))], hp [(0, ⟨ints (spIn s i k).1, true⟩)] 1⟩)
      (fun k => k ≤ ((cutL 124 s).getD i []).length) (fun k => ((cutL 124 s).getD i []).length - k) 0 (by simp) (Wk.of (by simp only [go_sem, ↓List.forall_mem_cons, List.not_mem_nil, false_implies, implies_true, and_true, true_and, and_self, ri_eq, Int.natCast_add, Int.cast_ofNat_Int, rst, spIn_zero]; try simp) rfl) ?_
    intro k hk
    obtain ⟨g1, g2, g3⟩ := spIn8 s i k
    refine SW_of_vc Tryd.mixed _ _ _ (by kernel_rfl) ?_
    by_cases hkl : k < ((cutL 124 s).getD i []).length
    · have hsuc := spIn_succ s hkl
      generalize (cutL 124 s).getD i [] = q at *
      have hix := sb_ix hkl
      have hc8 : (q.getD k 0).toNat < 256 := UInt8.toNat_lt _
      generalize q.getD k 0 = c at *
      generalize spIn s i k = p at *
      have hin := Tryd.l1In_ok ((c.toNat : Int) - 48) 0 7
      by_cases hx : 0 ≤ (c.toNat : Int) - 48 ∧ (c.toNat : Int) - 48 ≤ 7
      · have e : inR ((c.toNat : Int) - 48) 0 7 = true := inR_tt hx.1 hx.2
        rw [e] at hin
        rw [sput, if_pos hx] at hsuc
        simp (disch := omega) only [Tryd.ntmps24, Tryd.results24, go_sem, rst, hg, hix]
        refine hin.callV 0 (viewL_cons_of (view_int) (viewL_cons_of (view_int) (viewL_cons_of (view_int) viewL_nil_of))) ?_
        have hn : ((c.toNat : Int) - 48).toNat = c.toNat - 48 := by omega
        have hmax : (if p.2 < (c.toNat : Int) - 48 + 1 then (c.toNat : Int) - 48 + 1 else p.2) = max p.2 ((c.toNat : Int) - 48 + 1) := by split <;> omega
        simp (disch := omega) only [Tryd.ntmps24, Tryd.results24, go_sem, rst, hg, hn, hmax]
        exact ⟨k + 1, by omega, by omega, Wk.of (by simp only [go_sem, ↓List.forall_mem_cons, List.not_mem_nil, false_implies, implies_true, and_true, true_and, and_self, ri_eq, Int.natCast_add, Int.cast_ofNat_Int, rst, hsuc]; try simp) (by simp only [hsuc])⟩
      · have e : inR ((c.toNat : Int) - 48) 0 7 = false := by
          cases h : inR ((c.toNat : Int) - 48) 0 7 with
          | false => rfl
          | true => exact absurd (inR_of h) hx
        rw [e] at hin
        rw [sput, if_neg hx] at hsuc
        simp (disch := omega) only [Tryd.ntmps24, Tryd.results24, go_sem, rst, hg, hix]
        refine hin.callV 0 (viewL_cons_of (view_int) (viewL_cons_of (view_int) (viewL_cons_of (view_int) viewL_nil_of))) ?_
        simp (disch := omega) only [Tryd.ntmps24, Tryd.results24, go_sem, rst, hg]
        exact ⟨k + 1, by omega, by omega, Wk.of (by simp only [go_sem, ↓List.forall_mem_cons, List.not_mem_nil, false_implies, implies_true, and_true, true_and, and_self, ri_eq, Int.natCast_add, Int.cast_ofNat_Int, rst, hsuc]; try simp) (by simp only [hsuc])⟩
    · obtain rfl : k = ((cutL 124 s).getD i []).length := by omega
      simp (disch := omega) only [Tryd.ntmps24, Tryd.results24, go_sem, rst, hg]
      exact ⟨i + 1, by omega, by omega, Wk.of (by simp only [go_sem, ↓List.forall_mem_cons, List.not_mem_nil, false_implies, implies_true, and_true, true_and, and_self, ri_eq, Int.natCast_add, Int.cast_ofNat_Int, rst, hnext]; try simp) (by simp only [hnext])⟩
  · have hd := sdec_at s (i := i) (by omega)
    obtain ⟨h1, h2, h3⟩ := h8
    have hlen : (sdec s).length = (spAt s i).2.toNat := by rw [hd, List.length_take]; omega
    have wF := Tryd.specFP_ok (sdec s) (by omega)
    have hcells : (ints (spAt s i).1).take (spAt s i).2.toNat = ints (sdec s) := by rw [hd]; simp [ints]
    generalize spAt s i = p at *
    have hex : (i : Int) < (cutL 124 s).length → ¬ (i : Int) < 8 := fun h => by omega
    have hi8b : i < (cutL 124 s).length → i = 8 := by omega
    have hlen2 : (ints (sdec s)).length = p.2.toNat := by rw [ints_length, hlen]
    by_cases hn0 : p.2 = 0
    · have hnil : sdec s = [] := List.length_eq_zero_iff.1 (by omega)
      have hn1 : p.2.toNat = 0 := by omega
      rw [hnil] at hcells wF
      by_cases hlt2 : i < (cutL 124 s).length
      · have hi8 := hi8b hlt2
        by_cases hs0 : s = []
        · have hpp : pp s = ([], false) := pp_f fun h => h.1 hs0
          have hs1 : (s == ([] : List UInt8)) = true := by rw [hs0]; rfl
          simp (disch := omega) only [Tryd.ntmps24, Tryd.results24, go_sem, rst, hcells, hs1, ints_flat]
          exact pp_end (e2 := false) hpp rfl (by first | rfl | (simp (disch := omega) only [hx_map, hp_map, xmap_blk, hmap_cons, xmap_skipI, xmap_nil, if_pos, if_neg, ↓reduceIte]; try rfl))
        have hs1 : (s == ([] : List UInt8)) = false := by rw [beq_eq_false_iff_ne]; exact hs0
        simp (disch := omega) only [Tryd.ntmps24, Tryd.results24, go_sem, rst, hcells, hs1, ints_flat]
        refine wF.callV 2 (viewL_cons_of (view_own (L := ([] : List Int)) (e2 := false) (by first | rfl | (simp (disch := omega) only [hx_map, hp_map, xmap_blk, hmap_cons, xmap_skipI, xmap_nil, if_pos, if_neg, ↓reduceIte]; try rfl)) (by first | rfl | omega)) viewL_nil_of) ?_
        by_cases hf : fmtP (sdec s) = s
        · have hpp : pp s = (sdec s, true) := pp_t hs0 hf
          have hf1 : (fmtP (sdec s) == s) = true := by rw [hf]; exact beq_self_eq_true s
          rw [hnil] at hf1 hpp
          simp (disch := omega) only [Tryd.ntmps24, Tryd.results24, go_sem, rst, hf1]
          exact pp_end (e2 := false) hpp (by first | rfl | omega) (by first | rfl | (simp (disch := omega) only [hx_map, hp_map, xmap_blk, hmap_cons, xmap_skipI, xmap_nil, if_pos, if_neg, ↓reduceIte]; try rfl))
        · have hpp : pp s = ([], false) := pp_f fun h => hf h.2
          have hf1 : (fmtP (sdec s) == s) = false := by rw [beq_eq_false_iff_ne]; exact hf
          rw [hnil] at hf1
          simp (disch := omega) only [Tryd.ntmps24, Tryd.results24, go_sem, rst, hf1]
          exact pp_end (e2 := false) hpp rfl (by first | rfl | (simp (disch := omega) only [hx_map, hp_map, xmap_blk, hmap_cons, xmap_skipI, xmap_nil, if_pos, if_neg, ↓reduceIte]; try rfl))
      · have hi8 := hi8b
        by_cases hs0 : s = []
        · have hpp : pp s = ([], false) := pp_f fun h => h.1 hs0
          have hs1 : (s == ([] : List UInt8)) = true := by rw [hs0]; rfl
          simp (disch := omega) only [Tryd.ntmps24, Tryd.results24, go_sem, rst, hcells, hs1, ints_flat]
          exact pp_end (e2 := false) hpp rfl (by first | rfl | (simp (disch := omega) only [hx_map, hp_map, xmap_blk, hmap_cons, xmap_skipI, xmap_nil, if_pos, if_neg, ↓reduceIte]; try rfl))
        have hs1 : (s == ([] : List UInt8)) = false := by rw [beq_eq_false_iff_ne]; exact hs0
        simp (disch := omega) only [Tryd.ntmps24, Tryd.results24, go_sem, rst, hcells, hs1, ints_flat]
        refine wF.callV 2 (viewL_cons_of (view_own (L := ([] : List Int)) (e2 := false) (by first | rfl | (simp (disch := omega) only [hx_map, hp_map, xmap_blk, hmap_cons, xmap_skipI, xmap_nil, if_pos, if_neg, ↓reduceIte]; try rfl)) (by first | rfl | omega)) viewL_nil_of) ?_
        by_cases hf : fmtP (sdec s) = s
        · have hpp : pp s = (sdec s, true) := pp_t hs0 hf
          have hf1 : (fmtP (sdec s) == s) = true := by rw [hf]; exact beq_self_eq_true s
          rw [hnil] at hf1 hpp
          simp (disch := omega) only [Tryd.ntmps24, Tryd.results24, go_sem, rst, hf1]
          exact pp_end (e2 := false) hpp (by first | rfl | omega) (by first | rfl | (simp (disch := omega) only [hx_map, hp_map, xmap_blk, hmap_cons, xmap_skipI, xmap_nil, if_pos, if_neg, ↓reduceIte]; try rfl))
        · have hpp : pp s = ([], false) := pp_f fun h => hf h.2
          have hf1 : (fmtP (sdec s) == s) = false := by rw [beq_eq_false_iff_ne]; exact hf
          rw [hnil] at hf1
          simp (disch := omega) only [Tryd.ntmps24, Tryd.results24, go_sem, rst, hf1]
          exact pp_end (e2 := false) hpp rfl (by first | rfl | (simp (disch := omega) only [hx_map, hp_map, xmap_blk, hmap_cons, xmap_skipI, xmap_nil, if_pos, if_neg, ↓reduceIte]; try rfl))
    · by_cases hlt2 : i < (cutL 124 s).length
      · have hi8 := hi8b hlt2
        by_cases hs0 : s = []
        · have hpp : pp s = ([], false) := pp_f fun h => h.1 hs0
          have hs1 : (s == ([] : List UInt8)) = true := by rw [hs0]; rfl
          simp (disch := omega) only [Tryd.ntmps24, Tryd.results24, go_sem, rst, hcells, hs1, ints_flat]
          exact pp_end (e2 := false) hpp rfl (by first | rfl | (simp (disch := omega) only [hx_map, hp_map, xmap_blk, hmap_cons, xmap_skipI, xmap_nil, if_pos, if_neg, ↓reduceIte]; try rfl))
        have hs1 : (s == ([] : List UInt8)) = false := by rw [beq_eq_false_iff_ne]; exact hs0
        simp (disch := omega) only [Tryd.ntmps24, Tryd.results24, go_sem, rst, hcells, hs1, ints_flat]
        refine wF.callV 2 (viewL_cons_of (view_own (L := sdec s) (e2 := false) (by first | rfl | (simp (disch := omega) only [hx_map, hp_map, xmap_blk, hmap_cons, xmap_skipI, xmap_nil, if_pos, if_neg, ↓reduceIte]; try rfl)) (by first | rfl | omega)) viewL_nil_of) ?_
        by_cases hf : fmtP (sdec s) = s
        · have hpp : pp s = (sdec s, true) := pp_t hs0 hf
          have hf1 : (fmtP (sdec s) == s) = true := by rw [hf]; exact beq_self_eq_true s
          simp (disch := omega) only [Tryd.ntmps24, Tryd.results24, go_sem, rst, hf1]
          exact pp_end (e2 := false) hpp (by first | rfl | omega) (by first | rfl | (simp (disch := omega) only [hx_map, hp_map, xmap_blk, hmap_cons, xmap_skipI, xmap_nil, if_pos, if_neg, ↓reduceIte]; try rfl))
        · have hpp : pp s = ([], false) := pp_f fun h => hf h.2
          have hf1 : (fmtP (sdec s) == s) = false := by rw [beq_eq_false_iff_ne]; exact hf
          simp (disch := omega) only [Tryd.ntmps24, Tryd.results24, go_sem, rst, hf1]
          exact pp_end (e2 := false) hpp rfl (by first | rfl | (simp (disch := omega) only [hx_map, hp_map, xmap_blk, hmap_cons, xmap_skipI, xmap_nil, if_pos, if_neg, ↓reduceIte]; try rfl))
      · have hi8 := hi8b
        by_cases hs0 : s = []
        · have hpp : pp s = ([], false) := pp_f fun h => h.1 hs0
          have hs1 : (s == ([] : List UInt8)) = true := by rw [hs0]; rfl
          simp (disch := omega) only [Tryd.ntmps24, Tryd.results24, go_sem, rst, hcells, hs1, ints_flat]
          exact pp_end (e2 := false) hpp rfl (by first | rfl | (simp (disch := omega) only [hx_map, hp_map, xmap_blk, hmap_cons, xmap_skipI, xmap_nil, if_pos, if_neg, ↓reduceIte]; try rfl))
        have hs1 : (s == ([] : List UInt8)) = false := by rw [beq_eq_false_iff_ne]; exact hs0
        simp (disch := omega) only [Tryd.ntmps24, Tryd.results24, go_sem, rst, hcells, hs1, ints_flat]
        refine wF.callV 2 (viewL_cons_of (view_own (L := sdec s) (e2 := false) (by first | rfl | (simp (disch := omega) only [hx_map, hp_map, xmap_blk, hmap_cons, xmap_skipI, xmap_nil, if_pos, if_neg, ↓reduceIte]; try rfl)) (by first | rfl | omega)) viewL_nil_of) ?_
        by_cases hf : fmtP (sdec s) = s
        · have hpp : pp s = (sdec s, true) := pp_t hs0 hf
          have hf1 : (fmtP (sdec s) == s) = true := by rw [hf]; exact beq_self_eq_true s
          simp (disch := omega) only [Tryd.ntmps24, Tryd.results24, go_sem, rst, hf1]
          exact pp_end (e2 := false) hpp (by first | rfl | omega) (by first | rfl | (simp (disch := omega) only [hx_map, hp_map, xmap_blk, hmap_cons, xmap_skipI, xmap_nil, if_pos, if_neg, ↓reduceIte]; try rfl))
        · have hpp : pp s = ([], false) := pp_f fun h => hf h.2
          have hf1 : (fmtP (sdec s) == s) = false := by rw [beq_eq_false_iff_ne]; exact hf
          simp (disch := omega) only [Tryd.ntmps24, Tryd.results24, go_sem, rst, hf1]
          exact pp_end (e2 := false) hpp rfl (by first | rfl | (simp (disch := omega) only [hx_map, hp_map, xmap_blk, hmap_cons, xmap_skipI, xmap_nil, if_pos, if_neg, ↓reduceIte]; try rfl))
theorem Tryd.specPP_ok (s : List UInt8) (hs : s.length ≤ 1048576) : PCall Tryd.prog 24 [str s] (.tup [ri (pp s).1, .val (.bool (pp s).2)]) :=
  (Tryd.specPP_f s hs).pcall 3 (fun r H ⟨r0, h1, h2⟩ => view_tupB h1 h2)
end Go.Sh

/-
  ParsePartition of the program.
-/
namespace Go.Sh
set_option linter.unusedSimpArgs false
set_option linter.unusedVariables false
open Go Go.Proofs

theorem iput_app {n : Nat} {i : Int} : ∀ (a b : List UInt8) (l : List Int), iput n i (a ++ b) l = (iput n i a l).bind (iput n i b)
  | [], b, l => rfl
  | c :: a, b, l => by
    rw [List.cons_append, iput, iput]
    split
    · exact iput_app a b _
    · rfl
theorem ipc_app {n : Nat} : ∀ (qs rs : List (List UInt8)) (i : Int) (l : List Int), ipc n i (qs ++ rs) l = (ipc n i qs l).bind (fun l1 => ipc n (i + qs.length) rs l1)
  | [], rs, i, l => by simp [ipc]
  | q :: qs, rs, i, l => by
    rw [List.cons_append, ipc, ipc]
    cases iput n i q l with
    | none => rfl
    | some l1 =>
      simp only
      rw [ipc_app qs rs (i + 1) l1]
      congr 1
      funext l2
      congr 1
      rw [List.length_cons]; omega
theorem iput_len {n : Nat} {i : Int} : ∀ {a : List UInt8} {l l' : List Int}, iput n i a l = some l' → l'.length = l.length
  | [], l, l', h => by simp [iput] at h; rw [h]
  | c :: a, l, l', h => by
    rw [iput] at h
    split at h
    · rw [iput_len h, List.length_set]
    · cases h
theorem getD_take_succ {q : List UInt8} {j : Nat} (h : j < q.length) : q.take (j + 1) = q.take j ++ [q.getD j 0] := by
  rw [List.take_add_one, List.getElem?_eq_getElem h]; simp [List.getD, h]
theorem take_drop_at {q : List UInt8} {j : Nat} (h : j < q.length) : q = q.take j ++ q.getD j 0 :: q.drop (j + 1) := by
  have h1 : q.drop j = q.getD j 0 :: q.drop (j + 1) := by rw [List.drop_eq_getElem_cons h]; congr 1; simp [List.getD, h]
  rw [← h1, List.take_append_drop]
theorem takeS_succ {q : List (List UInt8)} {j : Nat} (h : j < q.length) : q.take (j + 1) = q.take j ++ [q.getD j []] := by
  rw [List.take_add_one, List.getElem?_eq_getElem h]; simp [List.getD, h]
theorem takeS_drop {q : List (List UInt8)} {j : Nat} (h : j < q.length) : q = q.take j ++ q.getD j [] :: q.drop (j + 1) := by
  have h1 : q.drop j = q.getD j [] :: q.drop (j + 1) := by rw [List.drop_eq_getElem_cons h]; congr 1; simp [List.getD, h]
  rw [← h1, List.take_append_drop]
theorem fin_val2 {R : SV → Heap → Prop} {a b : Value} {H : Heap} (h : R (.tup [.val a, .val b]) ⟨fun _ => none, H.nb⟩) : Fin R (.tup [.val a, .val b]) H :=
  ⟨⟨fun _ => none, H.nb⟩, ⟨rfl, fun _ => .inl rfl⟩, by simp [noRow, noRowL], fun b blk hb => by simp at hb, h⟩
def IPR (s : List UInt8) (r : SV) (H : Heap) : Prop := (∃ l, pp s = (l, true) ∧ ∃ r0, r = .tup [r0, .val (.bool true)] ∧ FlatRes l.length 1 (ints l) r0 H) ∨ (pp s = ([], false) ∧ r = .tup [.val (.slice none 0 0), .val (.bool false)])
theorem ipr_f {s : List UInt8} {H : Heap} (h : pp s = ([], false)) : Fin (IPR s) (.tup [.val (.slice none 0 0), .val (.bool false)]) H := fin_val2 (.inr ⟨h, rfl⟩)
theorem ipr_t {s : List UInt8} {l : List Int} {b n cap : Nat} {ex e2 : Bool} {H : Heap} (h : pp s = (l, true)) (hn : n = l.length) (hb : H.map b = some ⟨ints l, e2⟩) : Fin (IPR s) (.tup [.own b 0 n cap 1 ex, .val (.bool true)]) H := by
  obtain ⟨H2, h1, h2, h3, r0, h4, h5⟩ := pp_end (cap := cap) (ex := ex) h hn hb
  refine ⟨H2, h1, h2, h3, .inl ⟨l, h, r0, ?_, ?_⟩⟩
  · rw [h4, h]
  · rw [h] at h5; exact h5
/-- The list behind k pieces. -/
def ipAt (s : List UInt8) (k : Nat) (l : List Int) : Prop := ipc (s.length - s.count 124) 0 ((cutL 124 s).take k) (List.replicate (s.length - s.count 124) 0) = some l ∧ l.length = s.length - s.count 124
def ipIn (s : List UInt8) (k j : Nat) (l : List Int) : Prop := ∃ l0, ipAt s k l0 ∧ iput (s.length - s.count 124) k (((cutL 124 s).getD k []).take j) l0 = some l ∧ l.length = s.length - s.count 124
theorem ipIn.zero {s : List UInt8} {k : Nat} {l : List Int} (h : ipAt s k l) : ipIn s k 0 l := ⟨l, h, by rw [List.take_zero]; rfl, h.2⟩
theorem ipIn.succ {s : List UInt8} {k j : Nat} {l : List Int} (h : ipIn s k j l) (hj : j < ((cutL 124 s).getD k []).length) (hx : 0 ≤ ((((cutL 124 s).getD k []).getD j 0).toNat : Int) - 48 ∧ ((((cutL 124 s).getD k []).getD j 0).toNat : Int) - 48 ≤ ((s.length - s.count 124 : Nat) : Int) - 1) :
    ipIn s k (j + 1) (l.set ((((cutL 124 s).getD k []).getD j 0).toNat - 48) k) := by
  obtain ⟨l0, h1, h2, h3⟩ := h
  refine ⟨l0, h1, ?_, by rw [List.length_set]; exact h3⟩
  rw [getD_take_succ hj, iput_app, h2]
  show iput _ _ [_] l = _
  rw [iput, if_pos hx]; rfl
theorem ipIn.fail {s : List UInt8} {k j : Nat} {l : List Int} (h : ipIn s k j l) (hk : k < (cutL 124 s).length) (h16 : s.length ≤ 16) (hj : j < ((cutL 124 s).getD k []).length) (hx : ¬ (0 ≤ ((((cutL 124 s).getD k []).getD j 0).toNat : Int) - 48 ∧ ((((cutL 124 s).getD k []).getD j 0).toNat : Int) - 48 ≤ ((s.length - s.count 124 : Nat) : Int) - 1)) : pp s = ([], false) := by
  refine pp_in ?_
  obtain ⟨l0, h1, h2, h3⟩ := h
  have e1 : iput (s.length - s.count 124) k ((cutL 124 s).getD k []) l0 = none := by
    conv => lhs; rw [take_drop_at hj]
    rw [iput_app, h2]
    show iput _ _ (_ :: _) l = _
    rw [iput, if_neg hx]
  rw [idec, if_neg (by omega)]
  conv => lhs; rw [takeS_drop hk]
  rw [ipc_app, h1.1]
  show ipc _ _ (_ :: _) l0 = _
  have e2 : (0 : Int) + (((cutL 124 s).take k).length : Int) = k := by rw [List.length_take]; omega
  rw [e2, ipc, e1]
theorem ipIn.next {s : List UInt8} {k : Nat} {l : List Int} (h : ipIn s k ((cutL 124 s).getD k []).length l) (hk : k < (cutL 124 s).length) : ipAt s (k + 1) l := by
  obtain ⟨l0, h1, h2, h3⟩ := h
  rw [List.take_length] at h2
  refine ⟨?_, h3⟩
  rw [takeS_succ hk, ipc_app, h1.1]
  show ipc _ _ [_] l0 = _
  have e2 : (0 : Int) + (((cutL 124 s).take k).length : Int) = k := by rw [List.length_take]; omega
  rw [e2, ipc, h2]; rfl
theorem ipAt.all {s : List UInt8} {l : List Int} (h : ipAt s (cutL 124 s).length l) (h16 : s.length ≤ 16) : idec s = some l := by
  have h1 := h.1
  rw [List.take_length] at h1
  rw [idec, if_neg (by omega), h1]

set_option maxHeartbeats 8000000 in
theorem Tryd.implPP_f (s : List UInt8) (hs : s.length ≤ 1048576) : FCall Tryd.prog 25 [str s] (IPR s) := by
  have wc := Tryd.count_ok s 124
  have ws := Tryd.split_ok s 124 hs
  have hcl := cutL_len 124 s
  have hcc : s.count 124 ≤ s.length := List.count_le_length
  refine FCall.of_body Tryd.func25 rfl (by kernel_rfl) (by simp [Tryd.ntmps25]) ?_
  refine SW_of_vc Tryd.mixed _ _ _ (by kernel_rfl) ?_
  by_cases h16 : 16 < s.length
  · have hpp : pp s = ([], false) := pp_in (by rw [idec, if_pos h16])
    simp (disch := omega) only [Tryd.ntmps25, Tryd.results25, go_sem]
    exact ipr_f hpp
  have h16 : s.length ≤ 16 := by omega
  simp (disch := omega) only [Tryd.ntmps25, Tryd.results25, go_sem]
  refine wc.callV 0 (viewL_cons_of view_str (viewL_cons_of view_str viewL_nil_of)) ?_
  have hsub : ((s.length : Int) - (s.count 124 : Int)) = ((s.length - s.count 124 : Nat) : Int) := by omega
  have hz : ipAt s 0 (List.replicate (s.length - s.count 124) 0) := ⟨by rw [List.take_zero]; rfl, by simp⟩
  have hn8 : s.length - s.count 124 ≤ 16 := by omega
  have step := fun k j l (h : ipIn s k j l) hj hx => h.succ hj hx
  have fail := fun k j l (h : ipIn s k j l) hk hj hx => h.fail hk h16 hj hx
  generalize hN : s.length - s.count 124 = N at *
  simp (disch := omega) only [Tryd.ntmps25, Tryd.results25, go_sem, hsub]
  refine ws.callV 0 (viewL_cons_of view_str (viewL_cons_of view_str viewL_nil_of)) ?_
  simp (disch := omega) only [Tryd.ntmps25, Tryd.results25, go_sem, rst]
  refine LoopW.loop (fun p : Nat × List Int => ⟨ofL [(0, str s), (4, .own 0 0 N N 1 true), (19, rst (cutL 124 s)), (20, .val (.int .i64 (cutL 124 s).length)), (21, .val (.int .i64 p.1))], hp [(0, ⟨ints p.2, true⟩)] 1⟩)
    (fun p => p.1 ≤ (cutL 124 s).length ∧ ipAt s p.1 p.2) (fun p => (cutL 124 s).length - p.1) (0, List.replicate N 0) ⟨by simp, hz⟩ (Wk.of (by simp only [go_sem, ↓List.forall_mem_cons, List.not_mem_nil, false_implies, implies_true, and_true, true_and, and_self, ri_eq, Int.natCast_add, Int.cast_ofNat_Int, rst]; try simp) rfl) ?_
  rintro ⟨k, l⟩ ⟨hk, hl⟩
  simp only at hk hl
  refine SW_of_vc Tryd.mixed _ _ _ (by kernel_rfl) ?_
  by_cases hlt : k < (cutL 124 s).length
  · have hg := strs_get hlt
    simp (disch := omega) only [Tryd.ntmps25, Tryd.results25, go_sem, rst, hg]
    have hql : ((cutL 124 s).getD k []).length ≤ s.length := cutL_part 124 s _ (by simp [List.getD, hlt])
    have stepk := step k
    have failk := fail k
    have nextk := fun l (h : ipIn s k ((cutL 124 s).getD k []).length l) => h.next hlt
    have zk := ipIn.zero hl
    generalize (cutL 124 s).getD k [] = q at *
    refine LoopW.loop (fun p : Nat × List Int => ⟨ofL [(0, str s), (4, .own 0 0 N N 1 true), (19, rst (cutL 124 s)), (20, .val (.int .i64 (cutL 124 s).length)), (21, .val (.int .i64 k)), (5, .val (.int .i64 k)), (6, str q), (27, .val (.int .i64 q.length)), (28, .val (.int .i64 p.1))], hp [(0, ⟨ints p.2, true⟩)] 1⟩)
      (fun p => p.1 ≤ q.length ∧ ipIn s k p.1 p.2) (fun p => q.length - p.1) (0, l) ⟨by simp, zk⟩ (Wk.of (by simp only [go_sem, ↓List.forall_mem_cons, List.not_mem_nil, false_implies, implies_true, and_true, true_and, and_self, ri_eq, Int.natCast_add, Int.cast_ofNat_Int, rst]; try simp) rfl) ?_
    rintro ⟨j, l'⟩ ⟨hj, hl'⟩
    simp only at hj hl'
    have hll : l'.length = N := by obtain ⟨_, _, _, h3⟩ := hl'; rw [h3, hN]
    refine SW_of_vc Tryd.mixed _ _ _ (by kernel_rfl) ?_
    by_cases hjl : j < q.length
    · have hix := sb_ix hjl
      have hc8 : (q.getD j 0).toNat < 256 := UInt8.toNat_lt _
      have st := stepk j l' hl' hjl
      have fl := failk j l' hl' hlt hjl
      generalize q.getD j 0 = c at *
      have hin := Tryd.isItem_ok ((c.toNat : Int) - 48) (N : Int) (by omega) (by omega)
      by_cases hx : 0 ≤ (c.toNat : Int) - 48 ∧ (c.toNat : Int) - 48 ≤ (N : Int) - 1
      · have e : inR ((c.toNat : Int) - 48) 0 ((N : Int) - 1) = true := inR_tt hx.1 hx.2
        rw [e] at hin
        have st := st hx
        have hn : ((c.toNat : Int) - 48).toNat = c.toNat - 48 := by omega
        simp (disch := omega) only [Tryd.ntmps25, Tryd.results25, go_sem, rst, hix]
        refine hin.callV 0 (viewL_cons_of (view_int) (viewL_cons_of (view_int) viewL_nil_of)) ?_
        simp (disch := omega) only [Tryd.ntmps25, Tryd.results25, go_sem, rst, hn]
        exact ⟨(j + 1, l'.set (c.toNat - 48) k), ⟨hjl, st⟩, by simp only; omega, Wk.of (by simp only [go_sem, ↓List.forall_mem_cons, List.not_mem_nil, false_implies, implies_true, and_true, true_and, and_self, ri_eq, Int.natCast_add, Int.cast_ofNat_Int, rst]; try simp) rfl⟩
      · have e : inR ((c.toNat : Int) - 48) 0 ((N : Int) - 1) = false := by
          cases h : inR ((c.toNat : Int) - 48) 0 ((N : Int) - 1) with
          | false => rfl
          | true => exact absurd (inR_of h) hx
        rw [e] at hin
        have hpp := fl hx
        simp (disch := omega) only [Tryd.ntmps25, Tryd.results25, go_sem, rst, hix]
        refine hin.callV 0 (viewL_cons_of (view_int) (viewL_cons_of (view_int) viewL_nil_of)) ?_
        simp (disch := omega) only [Tryd.ntmps25, Tryd.results25, go_sem, rst]
        exact ipr_f hpp
    · obtain rfl : j = q.length := by omega
      have hnext := nextk l' hl'
      simp (disch := omega) only [Tryd.ntmps25, Tryd.results25, go_sem, rst]
      exact ⟨(k + 1, l'), ⟨hlt, hnext⟩, by simp only; omega, Wk.of (by simp only [go_sem, ↓List.forall_mem_cons, List.not_mem_nil, false_implies, implies_true, and_true, true_and, and_self, ri_eq, Int.natCast_add, Int.cast_ofNat_Int, rst]; try simp) rfl⟩
  · obtain rfl : k = (cutL 124 s).length := by omega
    have hid := hl.all h16
    have hll : l.length = N := by rw [hl.2, hN]
    have wF := Tryd.implFP_ok l (by omega)
    by_cases hs0 : s = []
    · have hpp : pp s = ([], false) := pp_f fun h => h.1 hs0
      have hs1 : (s == ([] : List UInt8)) = true := by rw [hs0]; rfl
      simp (disch := omega) only [Tryd.ntmps25, Tryd.results25, go_sem, rst, hs1]
      exact ipr_f hpp
    have hs1 : (s == ([] : List UInt8)) = false := by rw [beq_eq_false_iff_ne]; exact hs0
    simp (disch := omega) only [Tryd.ntmps25, Tryd.results25, go_sem, rst, hs1]
    refine wF.callV 2 (viewL_cons_of (view_own (L := l) (e2 := true) (by first | rfl | (simp (disch := omega) only [hx_map, hp_map, xmap_blk, hmap_cons, xmap_skipI, xmap_nil, if_pos, if_neg, ↓reduceIte]; try rfl)) hll.symm) viewL_nil_of) ?_
    by_cases hf : fmtP l = s
    · have hpp : pp s = (l, true) := pp_t hs0 hf
      have hf1 : (fmtP l == s) = true := by rw [hf]; exact beq_self_eq_true s
      simp (disch := omega) only [Tryd.ntmps25, Tryd.results25, go_sem, rst, hf1]
      exact ipr_t (e2 := true) hpp hll.symm (by first | rfl | (simp (disch := omega) only [hx_map, hp_map, xmap_blk, hmap_cons, xmap_skipI, xmap_nil, if_pos, if_neg, ↓reduceIte]; try rfl))
    · have hpp : pp s = ([], false) := pp_is hid hf
      have hf1 : (fmtP l == s) = false := by rw [beq_eq_false_iff_ne]; exact hf
      simp (disch := omega) only [Tryd.ntmps25, Tryd.results25, go_sem, rst, hf1]
      exact ipr_f hpp
theorem Tryd.implPP_t (s : List UInt8) (hs : s.length ≤ 1048576) {l : List Int} (h : pp s = (l, true)) : FCall Tryd.prog 25 [str s] (fun r H => r = .tup [.own 0 0 l.length l.length 1 false, .val (.bool true)] ∧ H = Heap.one ⟨ints l, false⟩) :=
  ((Tryd.implPP_f s hs).mono (R' := fun r H => ∃ r0, r = .tup [r0, .val (.bool true)] ∧ FlatRes l.length 1 (ints l) r0 H) (fun r H hr => by
    rcases hr with ⟨l', h1, r0, h2, h3⟩ | ⟨h1, _⟩
    · rw [h] at h1
      obtain rfl : l = l' := congrArg Prod.fst h1
      exact ⟨r0, h2, h3⟩
    · rw [h] at h1; cases h1)).oneT
theorem Tryd.implPP_n (s : List UInt8) (hs : s.length ≤ 1048576) (h : pp s = ([], false)) : FCall Tryd.prog 25 [str s] (fun r _ => r = .tup ([Value.slice none 0 0, Value.bool false].map .val)) :=
  (Tryd.implPP_f s hs).mono (fun r H hr => by
    rcases hr with ⟨l', h1, _⟩ | ⟨h1, h2⟩
    · rw [h] at h1; cases h1
    · exact h2)
theorem pp_le (s : List UInt8) : (pp s).1.length ≤ 8 := by
  rw [pp]; split
  · rename_i h
    have := isPart_len (fmtP_part (L := sdec s) (by rw [h.2]; exact h.1))
    exact this.2
  · simp
theorem pp_cases (s : List UInt8) : (∃ l, pp s = (l, true)) ∨ pp s = ([], false) := by
  rw [pp]; split
  · exact .inl ⟨_, rfl⟩
  · exact .inr rfl
end Go.Sh

/-
  The laws' own helpers: is the code long; are two lists the same.
-/
namespace Go.Sh
set_option linter.unusedSimpArgs false
set_option linter.unusedVariables false
open Go Go.RowKit Go.Proofs

theorem Tryd.big_ok (B : List Int) (hB : B.length ≤ 9223372036854775807) : PCall Tryd.prog 32 [rby B] (.val (.bool (decide (1048576 < B.length)))) := by
  refine FCall.pcall (R := fun r _ => r = .val (.bool (decide (1048576 < B.length)))) ?_ 0 (by rintro r H rfl; exact view_bool)
  refine FCall.of_body Tryd.func32 rfl (by kernel_rfl) (by simp [Tryd.ntmps32]) ?_
  refine SW_of_vc Tryd.mixed _ _ _ (by kernel_rfl) ?_
  by_cases h : 1048576 < B.length
  · rw [decide_eq_true h]
    simp (disch := omega) only [Tryd.ntmps32, Tryd.results32, go_sem, rby]
    exact Fin.val rfl
  · rw [decide_eq_false h]
    simp (disch := omega) only [Tryd.ntmps32, Tryd.results32, go_sem, rby]
    exact Fin.val rfl
theorem Tryd.sameInts_ok (A : List Int) (hA : A.length ≤ 1048576) : PCall Tryd.prog 36 [ri A, ri A] (.val (.bool true)) := by
  refine FCall.pcall (R := fun r _ => r = .val (.bool true)) ?_ 0 (by rintro r H rfl; exact view_bool)
  refine FCall.of_body Tryd.func36 rfl (by kernel_rfl) (by simp [Tryd.ntmps36]) ?_
  refine SW_of_vc Tryd.mixed _ _ _ (by kernel_rfl) ?_
  simp (disch := omega) only [Tryd.ntmps36, Tryd.results36, go_sem]
  refine LoopW.loop (fun k : Nat => ⟨ofL [(0, ri A), (1, ri A), (5, .val (.int .i64 k))], hp [] 0⟩) (fun k => k ≤ A.length) (fun k => A.length - k) 0 (by omega) (Wk.of (by simp only [go_sem, ↓List.forall_mem_cons, List.not_mem_nil, false_implies, implies_true, and_true, true_and, and_self, ri_eq, Int.natCast_add, Int.cast_ofNat_Int]; try simp) rfl) ?_
  intro k hk
  refine SW_of_vc Tryd.mixed _ _ _ (by kernel_rfl) ?_
  by_cases hlt : k < A.length
  · have gx : (ints A)[k]? = some (.val (.int .i64 (A.getD k 0))) := ints_get hlt
    have hil := ints_length A
    simp (disch := omega) only [Tryd.ntmps36, Tryd.results36, go_sem, gx, hil, bne_self_eq_false]
    exact ⟨k + 1, by omega, by omega, Wk.of (by simp only [go_sem, ↓List.forall_mem_cons, List.not_mem_nil, false_implies, implies_true, and_true, true_and, and_self, ri_eq, Int.natCast_add, Int.cast_ofNat_Int]; try simp) rfl⟩
  · simp (disch := omega) only [Tryd.ntmps36, Tryd.results36, go_sem]
    exact Fin.val rfl
end Go.Sh

/-
  Contracts: joins of partitions, of the reference.
-/
namespace Go.Sh
set_option linter.unusedSimpArgs false
set_option linter.unusedVariables false
open Go Go.Proofs

set_option maxHeartbeats 4000000 in
theorem Tryd.specJoin_f (A B : List Int) (hA : A.length ≤ 1048576) (hB : B.length ≤ 1048576) (h : pairB A B = true) : FCall Tryd.prog 38 [ri A, ri B] (FlatRes A.length 1 (ints (jn A B))) := by
  obtain ⟨pa, pb, hl⟩ := pairB_t h
  obtain ⟨l1, l2⟩ := isPart_len pa
  have w1 := Tryd.l19Pair_ok A B hA hB
  rw [h] at w1
  rw [jn_t h]
  refine FCall.of_body Tryd.func38 rfl (by kernel_rfl) (by simp [Tryd.ntmps38]) ?_
  refine SW_of_vc Tryd.mixed _ _ _ (by kernel_rfl) ?_
  simp (disch := omega) only [Tryd.ntmps38, Tryd.results38, go_sem]
  refine w1.callV 0 (viewL_cons_of (view_rowL (by first | rfl | simp [marks_length, canon_length] | omega)) (viewL_cons_of (view_rowL (by first | rfl | simp [marks_length, canon_length] | omega)) viewL_nil_of)) ?_
  simp (disch := omega) only [Tryd.ntmps38, Tryd.results38, go_sem]
  refine (Tryd.l17Links_one A.length hA).callMat (mb_vals _) 0 (viewL_cons_of (view_int) viewL_nil_of) ?_
  simp (disch := omega) only [Tryd.ntmps38, Tryd.results38, go_sem, bz_length]
  generalize hn : A.length = n at *
  refine LoopW.loop (fun p : Nat × List (List Bool) => ⟨ofL [(0, .row n false (ints A)), (1, .row B.length false (ints B)), (5, .own 0 0 n n 1 false), (6, .val (.int .i64 p.1))], hx [.mat 0 (mb p.2)] (n + 1)⟩)
    (fun p => p.1 ≤ n ∧ Sq n p.2 ∧ ∀ x y, x < p.1 → y < n → bmat p.2 x y = joinB A B x y) (fun p => n - p.1) (0, bz n) ⟨by simp, .bz _, fun x y h => by simp at h⟩
    (Wk.ofX (by simp only [go_sem, ↓List.forall_mem_cons, List.not_mem_nil, false_implies, implies_true, and_true, true_and, and_self, ri_eq, Int.natCast_add, Int.cast_ofNat_Int, hn]; try simp) (by simp only [List.forall_mem_cons]; exact ⟨.self, by simp⟩) (Nat.le_refl _)) ?_
  rintro ⟨i, X⟩ ⟨hi, hX, hXX⟩
  simp only at hi hX hXX
  refine SW_of_vc Tryd.mixed _ _ _ (by kernel_rfl) ?_
  by_cases hlt : i < n
  · simp (disch := omega) only [Tryd.ntmps38, Tryd.results38, go_sem, hn]
    refine LoopW.loop (fun p : Nat × List (List Bool) => ⟨ofL [(0, .row n false (ints A)), (1, .row B.length false (ints B)), (5, .own 0 0 n n 1 false), (6, .val (.int .i64 i)), (7, .val (.int .i64 p.1))], hx [.mat 0 (mb p.2)] (n + 1)⟩)
      (fun p => p.1 ≤ n ∧ Sq n p.2 ∧ ∀ x y, (x < i ∨ (x = i ∧ y < p.1)) → y < n → bmat p.2 x y = joinB A B x y) (fun p => n - p.1) (0, X) ⟨by simp, hX, fun x y h => hXX x y (by simpa using h)⟩
      (Wk.ofX (by simp only [go_sem, ↓List.forall_mem_cons, List.not_mem_nil, false_implies, implies_true, and_true, true_and, and_self, ri_eq, Int.natCast_add, Int.cast_ofNat_Int, hn]; try simp) (by simp only [List.forall_mem_cons]; exact ⟨.self, by simp⟩) (Nat.le_refl _)) ?_
    rintro ⟨k, Y⟩ ⟨hk, hY, hYY⟩
    simp only at hk hY hYY
    have hYi := hY.2 i hlt
    have hY1 := hY.1
    refine SW_of_vc Tryd.mixed _ _ _ (by kernel_rfl) ?_
    by_cases hlt2 : k < n
    · have g1 := ints_get (L := A) (k := i) (by omega)
      have g2 := ints_get (L := A) (k := k) (by omega)
      have g3 := ints_get (L := B) (k := i) (by omega)
      have g4 := ints_get (L := B) (k := k) (by omega)
      have hset := fun x y => bset_at Y i k (joinB A B i k) (k := x) (d := y) (by omega) (by omega)
      have hfin : ∀ x y, (x < i ∨ (x = i ∧ y < k + 1)) → y < n → bmat (bset Y i k (joinB A B i k)) x y = joinB A B x y := by
        intro x y h hy
        rw [hset]
        split
        · rename_i e; rw [e.1, e.2]
        · exact hYY x y (by omega) hy
      have hjd : joinB A B i k = (decide (A.getD i 0 = A.getD k 0) || decide (B.getD i 0 = B.getD k 0)) := rfl
      generalize A.getD i 0 = a1 at *
      generalize A.getD k 0 = a2 at *
      generalize B.getD i 0 = b1 at *
      generalize B.getD k 0 = b2 at *
      by_cases e1 : a1 = a2
      · have e : joinB A B i k = true := by rw [hjd]; simp [e1]
        rw [e] at hfin
        simp (disch := omega) only [Tryd.ntmps38, Tryd.results38, go_sem, hn, g1, g2, outerB_getB, hYi, xmap_rowB, xset_rowB, bools_set, hY1]
        exact ⟨(k + 1, bset Y i k true), ⟨hlt2, hY.set _ _ _, hfin⟩, by show n - (k + 1) < n - k; omega, (Wk.ofX (by simp only [go_sem, ↓List.forall_mem_cons, List.not_mem_nil, false_implies, implies_true, and_true, true_and, and_self, ri_eq, Int.natCast_add, Int.cast_ofNat_Int]; try simp) (by simp only [List.forall_mem_cons]; exact ⟨.self, by simp⟩) (Nat.le_refl _))⟩
      · by_cases e2 : b1 = b2
        · have e : joinB A B i k = true := by rw [hjd]; simp [e2]
          rw [e] at hfin
          simp (disch := omega) only [Tryd.ntmps38, Tryd.results38, go_sem, hn, g1, g2, g3, g4, outerB_getB, hYi, xmap_rowB, xset_rowB, bools_set, hY1]
          exact ⟨(k + 1, bset Y i k true), ⟨hlt2, hY.set _ _ _, hfin⟩, by show n - (k + 1) < n - k; omega, (Wk.ofX (by simp only [go_sem, ↓List.forall_mem_cons, List.not_mem_nil, false_implies, implies_true, and_true, true_and, and_self, ri_eq, Int.natCast_add, Int.cast_ofNat_Int]; try simp) (by simp only [List.forall_mem_cons]; exact ⟨.self, by simp⟩) (Nat.le_refl _))⟩
        · have e : joinB A B i k = false := by rw [hjd]; simp [e1, e2]
          rw [e] at hfin
          simp (disch := omega) only [Tryd.ntmps38, Tryd.results38, go_sem, hn, g1, g2, g3, g4, outerB_getB, hYi, xmap_rowB, xset_rowB, bools_set, hY1]
          exact ⟨(k + 1, bset Y i k false), ⟨hlt2, hY.set _ _ _, hfin⟩, by show n - (k + 1) < n - k; omega, (Wk.ofX (by simp only [go_sem, ↓List.forall_mem_cons, List.not_mem_nil, false_implies, implies_true, and_true, true_and, and_self, ri_eq, Int.natCast_add, Int.cast_ofNat_Int]; try simp) (by simp only [List.forall_mem_cons]; exact ⟨.self, by simp⟩) (Nat.le_refl _))⟩
    · simp (disch := omega) only [Tryd.ntmps38, Tryd.results38, go_sem, hn]
      exact ⟨(i + 1, Y), ⟨hlt, hY, fun x y h hy => hYY x y (by omega) hy⟩, by show n - (i + 1) < n - i; omega, (Wk.ofX (by simp only [go_sem, ↓List.forall_mem_cons, List.not_mem_nil, false_implies, implies_true, and_true, true_and, and_self, ri_eq, Int.natCast_add, Int.cast_ofNat_Int]; try simp) (by simp only [List.forall_mem_cons]; exact ⟨.self, by simp⟩) (Nat.le_refl _))⟩
  · have hB : ∀ x y, x < n → y < n → bmat X x y = joinB A B x y := fun x y hx hy => hXX x y (by omega) hy
    have w := Tryd.l17Labels_f n X hA hX.1 hX.2 (fun x y hx hy h => by rw [hB y x hy hx, joinB_sym]; rw [hB x y hx hy] at h; exact h)
    have w2 : FCall Tryd.prog 75 [.val (.int .i64 n), rb X] (FlatRes n 1 (ints (comp n (joinB A B)))) := w.mono fun r H ⟨h1, h2⟩ => by
      rw [(h1.congr hB).eq] at h2; exact h2
    simp (disch := omega) only [Tryd.ntmps38, Tryd.results38, go_sem, hn]
    refine w2.one.callOne (ints_vals _) 2 (viewL_cons_of view_int (viewL_cons_of (view_mb .self hX.1.symm) viewL_nil_of)) ?_
    simp (disch := omega) only [Tryd.ntmps38, Tryd.results38, go_sem, hn]
    exact fin_ints join_ok.len.symm (by rw [hx_map, xmap_blk, if_pos rfl])
theorem Tryd.specJoin_not (A B : List Int) (hA : A.length ≤ 1048576) (hB : B.length ≤ 1048576) (h : pairB A B = false) : FCall Tryd.prog 38 [ri A, ri B] (FlatRes 0 1 (ints [])) := by
  have w1 := Tryd.l19Pair_ok A B hA hB
  rw [h] at w1
  refine FCall.of_body Tryd.func38 rfl (by kernel_rfl) (by simp [Tryd.ntmps38]) ?_
  refine SW_of_vc Tryd.mixed _ _ _ (by kernel_rfl) ?_
  simp (disch := omega) only [Tryd.ntmps38, Tryd.results38, go_sem]
  refine w1.callV 0 (viewL_cons_of (view_rowL (by first | rfl | simp [marks_length, canon_length] | omega)) (viewL_cons_of (view_rowL (by first | rfl | simp [marks_length, canon_length] | omega)) viewL_nil_of)) ?_
  simp (disch := omega) only [Tryd.ntmps38, Tryd.results38, go_sem]
  exact fin_ints (L := []) (b := 0) (e2 := false) rfl rfl
theorem Tryd.specJoin_ok (A B : List Int) (hA : A.length ≤ 1048576) (hB : B.length ≤ 1048576) : PCall Tryd.prog 38 [ri A, ri B] (ri (jn A B)) := by
  rcases Bool.eq_false_or_eq_true (pairB A B) with h | h
  · exact (Tryd.specJoin_f A B hA hB h).pcall 2 (fun _ _ h => flat_view h)
  · rw [jn_f h]; exact (Tryd.specJoin_not A B hA hB h).pcall 2 (fun _ _ h => flat_view h)
end Go.Sh

/-
  The law FnExactParsePartition, walked.
-/
namespace Go.Sh
set_option linter.unusedSimpArgs false
set_option linter.unusedVariables false
open Go Go.Proofs

theorem view_tupN {H : Heap} {f : Nat} {r : SV} (h : r = .tup ([Value.slice none 0 0, Value.bool false].map .val)) : view H (f + 1) r = some (.tup [ri [], .val (.bool false)]) := by
  subst h
  have h1 : viewL H f [.val (.slice none 0 0), .val (.bool false)] = some [ri [], .val (.bool false)] := viewL_cons_of view_nil (viewL_cons_of view_bool viewL_nil_of)
  simp only [List.map_cons, List.map_nil, view, h1]
set_option maxHeartbeats 16000000 in
theorem Tryd.exactParsePartition_ok (s : List UInt8) : PCall Tryd.prog 6 [str s] (.val (.bool true)) := by
  refine FCall.pcall (R := fun r _ => r = .val (.bool true)) ?_ 0 (by rintro r H rfl; exact view_bool)
  refine FCall.of_body Tryd.func6 rfl (by kernel_rfl) (by simp [Tryd.ntmps6]) ?_
  refine SW_of_vc Tryd.mixed _ _ _ (by kernel_rfl) ?_
  by_cases sL : 1048576 < s.length
  · simp (disch := omega) only [Tryd.ntmps6, Tryd.results6, go_sem]
    exact Fin.val rfl
  have hs : s.length ≤ 1048576 := by omega
  have wS := Tryd.specPP_ok s hs
  have hle := pp_le s
  rcases pp_cases s with ⟨l, hp⟩ | hp
  · have wT := Tryd.implPP_t s hs hp
    have wI : PCall Tryd.prog 25 [str s] (.tup [ri l, .val (.bool true)]) := wT.pcall 3 (fun r H ⟨h1, h2⟩ => by
      subst h1; subst h2
      have h3 : viewL (Heap.one ⟨ints l, false⟩) 2 [.own 0 0 l.length l.length 1 false, .val (.bool true)] = some [ri l, .val (.bool true)] := viewL_cons_of (view_own (L := l) (e2 := false) (by simp [Heap.one]) rfl) (viewL_cons_of view_bool viewL_nil_of)
      simp only [view, h3])
    rw [hp] at wS hle
    simp only at hle wS
    have hmk := held_marks l.length 1
    simp (disch := omega) only [Tryd.ntmps6, Tryd.results6, go_sem]
    refine wS.callV 0 (viewL_cons_of view_str viewL_nil_of) ?_
    simp (disch := omega) only [Tryd.ntmps6, Tryd.results6, go_sem]
    refine wT.callOneT (ints_vals _) 0 (viewL_cons_of view_str viewL_nil_of) ?_
    simp (disch := omega) only [Tryd.ntmps6, Tryd.results6, go_sem]
    refine (Tryd.eqIntS_ok l l (by omega) (by omega)).callV 2 (viewL_cons_of (view_own (L := l) (e2 := false) (by first | rfl | (simp (disch := omega) only [hx_map, hp_map, xmap_blk, hmap_cons, xmap_skipI, xmap_nil, if_pos, if_neg, ↓reduceIte]; try rfl)) (by first | rfl | omega | (simp [marks_length]; done) | (simp [marks_length]; omega) | (rw [marksT_length] <;> omega) | (rw [marksC_length] <;> omega))) (viewL_cons_of view_row viewL_nil_of)) ?_
    simp (disch := omega) only [Tryd.ntmps6, Tryd.results6, go_sem, decide_true, beq_self_eq_true, bne_self_eq_false]
    refine (Tryd.markIntS_ok l 1 _ _ _ _ false false (by first | rfl | (simp (disch := omega) only [hx_map, hp_map, xmap_blk, hmap_cons, xmap_skipI, xmap_nil, if_pos, if_neg, ↓reduceIte]; try rfl)) (by first | rfl | omega | (simp [marks_length]; done) | (simp [marks_length]; omega) | (rw [marksT_length] <;> omega) | (rw [marksC_length] <;> omega)) (by omega) (by omega) (by omega)).callDet ?_
    simp (disch := omega) only [Tryd.ntmps6, Tryd.results6, go_sem]
    refine (Tryd.heldIntS_ok (marks l.length 1) 1 (by rw [marks_length]; omega) (by omega) (by omega)).callV 2 (viewL_cons_of (view_own (L := marks l.length 1) (e2 := false) (by first | rfl | (simp (disch := omega) only [hx_map, hp_map, xmap_blk, hmap_cons, xmap_skipI, xmap_nil, if_pos, if_neg, ↓reduceIte]; try rfl)) (by first | rfl | omega | (simp [marks_length]; done) | (simp [marks_length]; omega) | (rw [marksT_length] <;> omega) | (rw [marksC_length] <;> omega))) (viewL_cons_of view_int viewL_nil_of)) ?_
    simp (disch := omega) only [Tryd.ntmps6, Tryd.results6, go_sem, hmk, bne_self_eq_false]
    refine wI.callV 2 (viewL_cons_of view_str viewL_nil_of) ?_
    simp (disch := omega) only [Tryd.ntmps6, Tryd.results6, go_sem]
    refine (Tryd.eqIntS_ok l l (by omega) (by omega)).callV 2 (viewL_cons_of (view_row) (viewL_cons_of (view_row) viewL_nil_of)) ?_
    simp (disch := omega) only [Tryd.ntmps6, Tryd.results6, go_sem, decide_true, beq_self_eq_true, bne_self_eq_false]
    refine (Tryd.heldIntS_ok (marks l.length 1) 1 (by rw [marks_length]; omega) (by omega) (by omega)).callV 2 (viewL_cons_of (view_own (L := marks l.length 1) (e2 := false) (by first | rfl | (simp (disch := omega) only [hx_map, hp_map, xmap_blk, hmap_cons, xmap_skipI, xmap_nil, if_pos, if_neg, ↓reduceIte]; try rfl)) (by first | rfl | omega | (simp [marks_length]; done) | (simp [marks_length]; omega) | (rw [marksT_length] <;> omega) | (rw [marksC_length] <;> omega))) (viewL_cons_of view_int viewL_nil_of)) ?_
    simp (disch := omega) only [Tryd.ntmps6, Tryd.results6, go_sem, hmk, bne_self_eq_false]
    exact Fin.val rfl
  · have wN := Tryd.implPP_n s hs hp
    have wI : PCall Tryd.prog 25 [str s] (.tup [ri [], .val (.bool false)]) := wN.pcall 1 (fun r H h => view_tupN h)
    rw [hp] at wS
    simp only at wS
    have hmk : held [] 1 = 1 := by simp [held, marks]
    simp (disch := omega) only [Tryd.ntmps6, Tryd.results6, go_sem]
    refine wS.callV 0 (viewL_cons_of view_str viewL_nil_of) ?_
    simp (disch := omega) only [Tryd.ntmps6, Tryd.results6, go_sem]
    refine wN.callTup 0 (viewL_cons_of view_str viewL_nil_of) ?_
    simp (disch := omega) only [Tryd.ntmps6, Tryd.results6, go_sem, List.map_cons, List.map_nil]
    refine (Tryd.eqIntS_ok [] [] (by simp) (by simp)).callV 2 (viewL_cons_of view_nil (viewL_cons_of view_row viewL_nil_of)) ?_
    simp (disch := omega) only [Tryd.ntmps6, Tryd.results6, go_sem, decide_true, beq_self_eq_true, bne_self_eq_false]
    refine (Tryd.markIntS_nil 1 _ (by omega) (by omega)).callDet ?_
    simp (disch := omega) only [Tryd.ntmps6, Tryd.results6, go_sem]
    refine (Tryd.heldIntS_ok [] 1 (by simp) (by omega) (by omega)).callV 2 (viewL_cons_of view_nil (viewL_cons_of view_int viewL_nil_of)) ?_
    simp (disch := omega) only [Tryd.ntmps6, Tryd.results6, go_sem, hmk, bne_self_eq_false]
    refine wI.callV 2 (viewL_cons_of view_str viewL_nil_of) ?_
    simp (disch := omega) only [Tryd.ntmps6, Tryd.results6, go_sem]
    refine (Tryd.eqIntS_ok [] [] (by simp) (by simp)).callV 2 (viewL_cons_of (view_row) (viewL_cons_of (view_row) viewL_nil_of)) ?_
    simp (disch := omega) only [Tryd.ntmps6, Tryd.results6, go_sem, decide_true, beq_self_eq_true, bne_self_eq_false]
    refine (Tryd.heldIntS_ok [] 1 (by simp) (by omega) (by omega)).callV 2 (viewL_cons_of view_nil (viewL_cons_of view_int viewL_nil_of)) ?_
    simp (disch := omega) only [Tryd.ntmps6, Tryd.results6, go_sem, hmk, bne_self_eq_false]
    exact Fin.val rfl
end Go.Sh

/-
  The law FnPartitions, walked.
-/
namespace Go.Sh
set_option linter.unusedSimpArgs false
set_option linter.unusedVariables false
open Go Go.RowKit Go.Proofs

theorem fmt_back (A : List Int) : pp (fmtP A) = (if isPart A = true then (A, true) else ([], false)) := by
  split
  · rename_i h
    exact pp_t (fun e => by
      have h1 := idec_fmt h
      have h2 := sdec_fmt h
      have h3 := isPart_len h
      rw [e] at h2
      have : sdec [] = [] := by simp [sdec, cutL, spc]
      rw [this] at h2
      rw [← h2] at h3
      simp at h3) rfl
  · rename_i h
    rw [fmtP_f (by simpa using h)]
    exact pp_f fun h => h.1 rfl
theorem Tryd.implPP_ok (s : List UInt8) (hs : s.length ≤ 1048576) : PCall Tryd.prog 25 [str s] (.tup [ri (pp s).1, .val (.bool (pp s).2)]) :=
  (Tryd.implPP_f s hs).pcall 3 (fun r H hr => by
    rcases hr with ⟨l, h1, r0, h2, h3⟩ | ⟨h1, h2⟩
    · rw [h1]; exact view_tupB h2 h3
    · rw [h1]; exact view_tupN h2)
theorem fmtP_le (A : List Int) : (fmtP A).length ≤ 1048576 := by
  have hB := BOk.of A
  have h1 : (accP (blocksOf A) (blocksOf A).length) = fmtP A := accP_all _
  have := hB.accP_le (Nat.le_refl _)
  have := hB.ln
  rw [← h1]; omega
set_option maxRecDepth 20000 in
set_option maxHeartbeats 16000000 in
theorem Tryd.fnPartitions_ok (B : List Int) (hBw : B.length ≤ 9223372036854775807) : PCall Tryd.prog 8 [rby B] (.val (.bool true)) := by
  have wbig := Tryd.big_ok B hBw
  refine FCall.pcall (R := fun r _ => r = .val (.bool true)) ?_ 0 (by rintro r H rfl; exact view_bool)
  refine FCall.of_body Tryd.func8 rfl (by kernel_rfl) (by simp [Tryd.ntmps8]) ?_
  refine SW.seqW ⟨ofL [(0, rby B)], hp [] 0⟩ ?_ ?_
  · refine SW_of_vc Tryd.mixed _ _ _ (by kernel_rfl) ?_
    simp (disch := omega) only [Tryd.ntmps8, Tryd.results8, go_sem, rby]
    exact Wk.of (by simp only [go_sem, ↓List.forall_mem_cons, List.not_mem_nil, false_implies, implies_true, and_true, true_and, and_self, ri_eq, Int.natCast_add, Int.cast_ofNat_Int, rby]; try simp) rfl
  by_cases hB : 1048576 < B.length
  · rw [decide_eq_true hB] at wbig
    refine SW_of_vc Tryd.mixed _ _ _ (by kernel_rfl) ?_
    simp (disch := omega) only [Tryd.ntmps8, Tryd.results8, go_sem, rby]
    refine wbig.callV 0 (viewL_cons_of (view_row) viewL_nil_of) ?_
    simp (disch := omega) only [Tryd.ntmps8, Tryd.results8, go_sem, rby]
    exact Fin.val rfl
  rw [decide_eq_false hB] at wbig
  have hB : B.length ≤ 1048576 := by omega
  refine SW.seqW ⟨ofL [(0, rby B)], hp [] 0⟩ ?_ ?_
  · refine SW_of_vc Tryd.mixed _ _ _ (by kernel_rfl) ?_
    simp (disch := omega) only [Tryd.ntmps8, Tryd.results8, go_sem, rby]
    refine wbig.callV 0 (viewL_cons_of (view_row) viewL_nil_of) ?_
    simp (disch := omega) only [Tryd.ntmps8, Tryd.results8, go_sem, rby]
    exact Wk.of (by simp only [go_sem, ↓List.forall_mem_cons, List.not_mem_nil, false_implies, implies_true, and_true, true_and, and_self, ri_eq, Int.natCast_add, Int.cast_ofNat_Int, rby]; try simp) rfl
  refine SW.seqI (fun y : List Int × List Int => ⟨ofL [(0, rby B), (3, ri y.1), (4, ri y.2)], hp [] 0⟩) (fun y => y.1.length ≤ 8 ∧ y.2.length ≤ 8) ?_ ?_
  · refine SW_of_vc Tryd.mixed _ _ _ (by kernel_rfl) ?_
    simp (disch := omega) only [Tryd.ntmps8, Tryd.results8, go_sem, rby]
    refine (Tryd.drawMeet_e B hB).callE 0 (viewL_cons_of (view_row) viewL_nil_of) ?_
    rintro T ⟨L1, L2, rfl, n1, n2⟩
    simp (disch := omega) only [Tryd.ntmps8, Tryd.results8, go_sem, rby]
    exact ⟨(L1, L2), ⟨n1, n2⟩, Wk.of (by simp only [go_sem, ↓List.forall_mem_cons, List.not_mem_nil, false_implies, implies_true, and_true, true_and, and_self, ri_eq, Int.natCast_add, Int.cast_ofNat_Int, rby]; try simp) rfl⟩
  rintro ⟨a, b⟩ ⟨la, lb⟩
  simp only at la lb
  have w1 := Tryd.implMeet_ok a b (by omega) (by omega)
  have w2 := Tryd.implJoin_ok a b (by omega) (by omega)
  have w3 := Tryd.specMeet_ok a b (by omega) (by omega)
  have w4 := Tryd.specJoin_ok a b (by omega) (by omega)
  have w5 := Tryd.implRefines_ok a b (by omega) (by omega)
  have w6 := Tryd.specRefines_ok a b (by omega) (by omega)
  have w7 := Tryd.implFP_ok a (by omega)
  have w8 := Tryd.implPP_ok (fmtP a) (fmtP_le a)
  have w9 := Tryd.specIsPartition_ok a (by omega)
  rw [fmt_back] at w8
  have hml : (meet a b).length ≤ 8 ∧ (jn a b).length ≤ 8 := by
    rcases Bool.eq_false_or_eq_true (pairB a b) with h | h
    · rw [meet_length h, jn_length h]; omega
    · rw [meet_f h, jn_f h]; simp
  have hfacts := pt_facts (A := a) (B := b)
  have href := pt_ref (A := a) (B := b)
  have hnil := meet_f (A := a) (B := b)
  have ra := Tryd.implRefines_ok (meet a b) a (by omega) (by omega)
  have rb := Tryd.implRefines_ok (meet a b) b (by omega) (by omega)
  have rc := Tryd.implRefines_ok a (jn a b) (by omega) (by omega)
  have rd := Tryd.implRefines_ok b (jn a b) (by omega) (by omega)
  have re := Tryd.implIsPartition_ok (meet a b) (by omega)
  have rf := Tryd.implIsPartition_ok (jn a b) (by omega)
  generalize meet a b = x at *
  generalize jn a b = y at *
  have sx := Tryd.sameInts_ok x (by omega)
  have sy := Tryd.sameInts_ok y (by omega)
  have sa := Tryd.sameInts_ok a (by omega)
  have sb := Tryd.sameInts_ok b (by omega)
  refine SW.seqW ⟨ofL [(0, rby B), (3, ri a), (4, ri b), (5, ri x)], hp [] 0⟩ ?_ ?_
  · refine SW_of_vc Tryd.mixed _ _ _ (by kernel_rfl) ?_
    simp (disch := omega) only [Tryd.ntmps8, Tryd.results8, go_sem, rby]
    refine w1.callV 0 (viewL_cons_of (view_row) (viewL_cons_of (view_row) viewL_nil_of)) ?_
    simp (disch := omega) only [Tryd.ntmps8, Tryd.results8, go_sem, rby]
    exact Wk.of (by simp only [go_sem, ↓List.forall_mem_cons, List.not_mem_nil, false_implies, implies_true, and_true, true_and, and_self, ri_eq, Int.natCast_add, Int.cast_ofNat_Int, rby]; try simp) rfl
  refine SW.seqW ⟨ofL [(0, rby B), (3, ri a), (4, ri b), (5, ri x), (6, ri y)], hp [] 0⟩ ?_ ?_
  · refine SW_of_vc Tryd.mixed _ _ _ (by kernel_rfl) ?_
    simp (disch := omega) only [Tryd.ntmps8, Tryd.results8, go_sem, rby]
    refine w2.callV 0 (viewL_cons_of (view_row) (viewL_cons_of (view_row) viewL_nil_of)) ?_
    simp (disch := omega) only [Tryd.ntmps8, Tryd.results8, go_sem, rby]
    exact Wk.of (by simp only [go_sem, ↓List.forall_mem_cons, List.not_mem_nil, false_implies, implies_true, and_true, true_and, and_self, ri_eq, Int.natCast_add, Int.cast_ofNat_Int, rby]; try simp) rfl
  refine SW.seqW ⟨ofL [(0, rby B), (3, ri a), (4, ri b), (5, ri x), (6, ri y)], hp [] 0⟩ ?_ ?_
  · refine SW_of_vc Tryd.mixed _ _ _ (by kernel_rfl) ?_
    simp (disch := omega) only [Tryd.ntmps8, Tryd.results8, go_sem, rby]
    refine w3.callV 0 (viewL_cons_of (view_row) (viewL_cons_of (view_row) viewL_nil_of)) ?_
    simp (disch := omega) only [Tryd.ntmps8, Tryd.results8, go_sem, rby]
    refine sx.callV 0 (viewL_cons_of (view_row) (viewL_cons_of (view_row) viewL_nil_of)) ?_
    simp (disch := omega) only [Tryd.ntmps8, Tryd.results8, go_sem, rby, Bool.not_true]
    refine w4.callV 0 (viewL_cons_of (view_row) (viewL_cons_of (view_row) viewL_nil_of)) ?_
    simp (disch := omega) only [Tryd.ntmps8, Tryd.results8, go_sem, rby]
    refine sy.callV 0 (viewL_cons_of (view_row) (viewL_cons_of (view_row) viewL_nil_of)) ?_
    simp (disch := omega) only [Tryd.ntmps8, Tryd.results8, go_sem, rby, Bool.not_true]
    refine w5.callV 0 (viewL_cons_of (view_row) (viewL_cons_of (view_row) viewL_nil_of)) ?_
    simp (disch := omega) only [Tryd.ntmps8, Tryd.results8, go_sem, rby]
    refine w6.callV 0 (viewL_cons_of (view_row) (viewL_cons_of (view_row) viewL_nil_of)) ?_
    simp (disch := omega) only [Tryd.ntmps8, Tryd.results8, go_sem, rby, beq_self_eq_true, Bool.not_true]
    exact Wk.of (by simp only [go_sem, ↓List.forall_mem_cons, List.not_mem_nil, false_implies, implies_true, and_true, true_and, and_self, ri_eq, Int.natCast_add, Int.cast_ofNat_Int, rby]; try simp) rfl
  refine SW.seqW ⟨ofL [(0, rby B), (3, ri a), (4, ri b), (5, ri x), (6, ri y)], hp [] 0⟩ ?_ ?_
  · refine SW_of_vc Tryd.mixed _ _ _ (by kernel_rfl) ?_
    rcases Bool.eq_false_or_eq_true (pairB a b) with h | h
    · obtain ⟨f1, f2, f3, f4, f5, f6⟩ := hfacts h
      rw [f1] at ra
      rw [f2] at rb
      rw [f3] at rc
      rw [f4] at rd
      rw [f5] at re
      rw [f6] at rf
      have hx0 := isPart_len f5
      simp (disch := omega) only [Tryd.ntmps8, Tryd.results8, go_sem, rby]
      refine ra.callV 0 (viewL_cons_of (view_row) (viewL_cons_of (view_row) viewL_nil_of)) ?_
      simp (disch := omega) only [Tryd.ntmps8, Tryd.results8, go_sem, rby, Bool.not_true]
      refine rb.callV 0 (viewL_cons_of (view_row) (viewL_cons_of (view_row) viewL_nil_of)) ?_
      simp (disch := omega) only [Tryd.ntmps8, Tryd.results8, go_sem, rby, Bool.not_true]
      refine rc.callV 0 (viewL_cons_of (view_row) (viewL_cons_of (view_row) viewL_nil_of)) ?_
      simp (disch := omega) only [Tryd.ntmps8, Tryd.results8, go_sem, rby, Bool.not_true]
      refine rd.callV 0 (viewL_cons_of (view_row) (viewL_cons_of (view_row) viewL_nil_of)) ?_
      simp (disch := omega) only [Tryd.ntmps8, Tryd.results8, go_sem, rby, Bool.not_true]
      refine re.callV 0 (viewL_cons_of (view_row) viewL_nil_of) ?_
      simp (disch := omega) only [Tryd.ntmps8, Tryd.results8, go_sem, rby, Bool.not_true]
      refine rf.callV 0 (viewL_cons_of (view_row) viewL_nil_of) ?_
      simp (disch := omega) only [Tryd.ntmps8, Tryd.results8, go_sem, rby, Bool.not_true]
      exact Wk.of (by simp only [go_sem, ↓List.forall_mem_cons, List.not_mem_nil, false_implies, implies_true, and_true, true_and, and_self, ri_eq, Int.natCast_add, Int.cast_ofNat_Int, rby]; try simp) rfl
    · obtain rfl := hnil h
      simp (disch := omega) only [Tryd.ntmps8, Tryd.results8, go_sem, rby, List.length_nil]
      exact Wk.of (by simp only [go_sem, ↓List.forall_mem_cons, List.not_mem_nil, false_implies, implies_true, and_true, true_and, and_self, ri_eq, Int.natCast_add, Int.cast_ofNat_Int, rby]; try simp) rfl
  refine SW.seqW ⟨ofL [(0, rby B), (3, ri a), (4, ri b), (5, ri x), (6, ri y)], hp [] 0⟩ ?_ ?_
  · refine SW_of_vc Tryd.mixed _ _ _ (by kernel_rfl) ?_
    rcases Bool.eq_false_or_eq_true (refB a b) with h | h
    · obtain ⟨rfl, rfl⟩ := href h
      rw [h] at w5
      simp (disch := omega) only [Tryd.ntmps8, Tryd.results8, go_sem, rby]
      refine w5.callV 0 (viewL_cons_of (view_row) (viewL_cons_of (view_row) viewL_nil_of)) ?_
      simp (disch := omega) only [Tryd.ntmps8, Tryd.results8, go_sem, rby]
      refine sx.callV 0 (viewL_cons_of (view_row) (viewL_cons_of (view_row) viewL_nil_of)) ?_
      simp (disch := omega) only [Tryd.ntmps8, Tryd.results8, go_sem, rby, Bool.not_true]
      refine sy.callV 0 (viewL_cons_of (view_row) (viewL_cons_of (view_row) viewL_nil_of)) ?_
      simp (disch := omega) only [Tryd.ntmps8, Tryd.results8, go_sem, rby, Bool.not_true]
      exact Wk.of (by simp only [go_sem, ↓List.forall_mem_cons, List.not_mem_nil, false_implies, implies_true, and_true, true_and, and_self, ri_eq, Int.natCast_add, Int.cast_ofNat_Int, rby]; try simp) rfl
    · rw [h] at w5
      simp (disch := omega) only [Tryd.ntmps8, Tryd.results8, go_sem, rby]
      refine w5.callV 0 (viewL_cons_of (view_row) (viewL_cons_of (view_row) viewL_nil_of)) ?_
      simp (disch := omega) only [Tryd.ntmps8, Tryd.results8, go_sem, rby]
      exact Wk.of (by simp only [go_sem, ↓List.forall_mem_cons, List.not_mem_nil, false_implies, implies_true, and_true, true_and, and_self, ri_eq, Int.natCast_add, Int.cast_ofNat_Int, rby]; try simp) rfl
  refine SW.seqW ⟨ofL [(0, rby B), (3, ri a), (7, str (fmtP a))], hp [] 0⟩ ?_ ?_
  · refine SW_of_vc Tryd.mixed _ _ _ (by kernel_rfl) ?_
    simp (disch := omega) only [Tryd.ntmps8, Tryd.results8, go_sem, rby]
    refine w7.callV 0 (viewL_cons_of (view_row) viewL_nil_of) ?_
    simp (disch := omega) only [Tryd.ntmps8, Tryd.results8, go_sem, rby]
    exact Wk.of (by simp only [go_sem, ↓List.forall_mem_cons, List.not_mem_nil, false_implies, implies_true, and_true, true_and, and_self, ri_eq, Int.natCast_add, Int.cast_ofNat_Int, rby]; try simp) rfl
  refine SW.seqI (fun z : List Int => ⟨ofL [(0, rby B), (3, ri a), (8, ri z), (9, .val (.bool (isPart a)))], hp [] 0⟩) (fun z => isPart a = true → z = a) ?_ ?_
  · refine SW_of_vc Tryd.mixed _ _ _ (by kernel_rfl) ?_
    simp (disch := omega) only [Tryd.ntmps8, Tryd.results8, go_sem, rby]
    refine w8.callV 0 (viewL_cons_of view_str viewL_nil_of) ?_
    rcases Bool.eq_false_or_eq_true (isPart a) with h | h
    · rw [if_pos h]
      simp (disch := omega) only [Tryd.ntmps8, Tryd.results8, go_sem, rby, h]
      exact ⟨a, rfl, Wk.of (by simp only [go_sem, ↓List.forall_mem_cons, List.not_mem_nil, false_implies, implies_true, and_true, true_and, and_self, ri_eq, Int.natCast_add, Int.cast_ofNat_Int, rby, h]; try simp) rfl⟩
    · rw [if_neg (by simp [h])]
      simp (disch := omega) only [Tryd.ntmps8, Tryd.results8, go_sem, rby, h]
      exact ⟨[], Wk.of (by simp only [go_sem, ↓List.forall_mem_cons, List.not_mem_nil, false_implies, implies_true, and_true, true_and, and_self, ri_eq, Int.natCast_add, Int.cast_ofNat_Int, rby, h]; try simp) rfl⟩
  intro z hz
  refine SW.seqI (fun l : List Int => ⟨ofL [(3, ri a), (8, ri z), (9, .val (.bool (isPart a))), (10, ri l)], hp [] 0⟩) (fun l => l.length ≤ 8) ?_ ?_
  · refine SW_of_vc Tryd.mixed _ _ _ (by kernel_rfl) ?_
    simp (disch := omega) only [Tryd.ntmps8, Tryd.results8, go_sem, rby]
    refine (Tryd.drawCanon_e B hB).callE 0 (viewL_cons_of (view_row) viewL_nil_of) ?_
    rintro T ⟨l, rfl, hl⟩
    simp (disch := omega) only [Tryd.ntmps8, Tryd.results8, go_sem, rby]
    exact ⟨l, hl, Wk.of (by simp only [go_sem, ↓List.forall_mem_cons, List.not_mem_nil, false_implies, implies_true, and_true, true_and, and_self, ri_eq, Int.natCast_add, Int.cast_ofNat_Int]; try simp) rfl⟩
  intro l hl
  have c1 := Tryd.implCanon_ok l (by omega)
  have c2 := Tryd.specCanon_ok l (by omega)
  have c4 := canon_length l
  have c3 := Tryd.implCanon_ok (canon l) (by omega)
  rw [canon_canon] at c3
  have sk := Tryd.sameInts_ok (canon l) (by omega)
  refine SW_of_vc Tryd.mixed _ _ _ (by kernel_rfl) ?_
  simp (disch := omega) only [Tryd.ntmps8, Tryd.results8, go_sem]
  refine c1.callV 0 (viewL_cons_of (view_row) viewL_nil_of) ?_
  simp (disch := omega) only [Tryd.ntmps8, Tryd.results8, go_sem]
  refine w9.callV 0 (viewL_cons_of (view_row) viewL_nil_of) ?_
  rcases Bool.eq_false_or_eq_true (isPart a) with h | h
  · obtain rfl := hz h
    simp (disch := omega) only [Tryd.ntmps8, Tryd.results8, go_sem, h, beq_self_eq_true]
    refine sa.callV 0 (viewL_cons_of (view_row) (viewL_cons_of (view_row) viewL_nil_of)) ?_
    simp (disch := omega) only [Tryd.ntmps8, Tryd.results8, go_sem, h, beq_self_eq_true]
    refine c2.callV 0 (viewL_cons_of (view_row) viewL_nil_of) ?_
    simp (disch := omega) only [Tryd.ntmps8, Tryd.results8, go_sem, h]
    refine sk.callV 0 (viewL_cons_of (view_row) (viewL_cons_of (view_row) viewL_nil_of)) ?_
    simp (disch := omega) only [Tryd.ntmps8, Tryd.results8, go_sem, h]
    refine c3.callV 0 (viewL_cons_of (view_row) viewL_nil_of) ?_
    simp (disch := omega) only [Tryd.ntmps8, Tryd.results8, go_sem, h]
    refine sk.callV 0 (viewL_cons_of (view_row) (viewL_cons_of (view_row) viewL_nil_of)) ?_
    simp (disch := omega) only [Tryd.ntmps8, Tryd.results8, go_sem, h]
    exact Fin.val rfl
  · simp (disch := omega) only [Tryd.ntmps8, Tryd.results8, go_sem, h, beq_self_eq_true]
    refine c2.callV 0 (viewL_cons_of (view_row) viewL_nil_of) ?_
    simp (disch := omega) only [Tryd.ntmps8, Tryd.results8, go_sem, h]
    refine sk.callV 0 (viewL_cons_of (view_row) (viewL_cons_of (view_row) viewL_nil_of)) ?_
    simp (disch := omega) only [Tryd.ntmps8, Tryd.results8, go_sem, h]
    refine c3.callV 0 (viewL_cons_of (view_row) viewL_nil_of) ?_
    simp (disch := omega) only [Tryd.ntmps8, Tryd.results8, go_sem, h]
    refine sk.callV 0 (viewL_cons_of (view_row) (viewL_cons_of (view_row) viewL_nil_of)) ?_
    simp (disch := omega) only [Tryd.ntmps8, Tryd.results8, go_sem, h]
    exact Fin.val rfl
end Go.Sh

/-
  From the values that came in to the shadow's: bytes.
-/
namespace Go.Sh
set_option linter.unusedSimpArgs false
set_option linter.unusedVariables false
open Go Go.RowKit
open Go.ChangeShapes Go.WideShapes

theorem crel_bys {O : Nat → Prop} {w : World} : ∀ (L : List Int) (x : Addr), (L ≠ [] → ¬ O x.block) → (∀ i, i < L.length → w.cell? (x.add i) = some (.int .u8 (L.getD i 0))) → CRel O w (bys L) x
  | [], x, _, _ => by simp only [bys, List.map_nil, CRel]
  | n :: L, x, hO, h => by
    have h0 := h 0 (by simp)
    rw [Addr.add_zero'] at h0
    have hs : x.spot = none := World.cell?_spot h0
    have e : bys (n :: L) = .val (.int .u8 n) :: bys L := rfl
    rw [e]
    simp only [CRel]
    refine ⟨hs, hO (by simp), ⟨_, h0, by simp [VRel]⟩, crel_bys L ⟨x.block, x.off + 1, none⟩ (fun _ => hO (by simp)) (fun i hi => ?_)⟩
    have := h (i + 1) (by simpa using hi)
    have e2 : (⟨x.block, x.off + 1, none⟩ : Addr).add i = x.add (i + 1) := by
      rw [Addr.add_lit, Addr.add_succ']
      simp [Nat.add_assoc, Nat.add_comm 1 i]
    rw [e2, this]
    simp
theorem isRow_bys {w : World} {a : Option Addr} {len cap : Nat} {zs : List Int} (h : IsRow .u8 w a len cap zs) : VRel (fun _ => False) w noj (rby (zs.take len)) (.slice a len cap) := by
  rcases h with ⟨rfl, rfl, rfl, rfl⟩ | ⟨x, rfl, h1, h2, h3, h4, h5⟩
  · simp only [rby, VRel]
    exact ⟨none, 0, rfl, Nat.le_refl _, by simp, .inl (by simp [bys])⟩
  · have hl : (zs.take len).length = len := by simp; omega
    simp only [rby, VRel]
    refine ⟨some x, cap, by rw [hl], by omega, by simp, .inr ⟨x, rfl, crel_bys _ x (fun _ h => h) (fun i hi => ?_)⟩⟩
    have hi' : i < len := by rw [hl] at hi; exact hi
    rw [h4 i (by omega)]
    congr 2
    simp [List.getD, hi']
theorem cell_bys {Hh : Type} {enc : TypeId × Value → Hh} {P : Program} {w : World} {held : Bool} {t e : TypeId} {fuel : Nat} {v : Value} {x : DataW Hh × List MemPlace} (ht : P.underlying t = some (.slice e)) (he : P.underlying e = some (.int .u8)) (hc : P.cellsOf e = 1)
    (h : DataW.trod enc P w 0 (fun _ => true) held fuel t [v] = some x) : ∃ L : List Int, VRel (fun _ => False) w noj (rby L) v ∧ L.length ≤ maxLen := by
  rcases open_ints ht he hc h with ⟨hcs, _⟩ | ⟨a, l, c, zs, hcs, _, hl, hm, hz, _, hcell, hwz⟩
  · simp at hcs
    subst hcs
    exact ⟨[], isRow_bys (zs := []) (.inl ⟨rfl, rfl, rfl, rfl⟩), by simp⟩
  · simp at hcs
    subst hcs
    exact ⟨zs.take l, isRow_bys (.inr ⟨_, rfl, hl, hm, by simpa using hz, hcell, hwz⟩), by simp; omega⟩
end Go.Sh
