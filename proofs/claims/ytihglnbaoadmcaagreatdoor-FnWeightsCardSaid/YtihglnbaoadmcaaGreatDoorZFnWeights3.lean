/-
  Texts put together: WA, WC, WL, NL2, WD, WP, WE, AT1, AT2, WF, WG, WH, W5, M1. What each proves stands at its own head, with its conditions.
-/
import Derived.Test.YtihglnbaoadmcaaGreatDoorZFnWeights2
import Derived.Lib.ReplaceLaws
import Derived.Sort.OwnSorted
import Derived.Lib.ConvBytes
import Derived.Lib.AtoiErrMem

set_option linter.unusedSimpArgs false
set_option linter.unusedVariables false
/-
  Texts and fields of records: contracts.
-/
namespace Go.Sh
open Go Go.Proofs

def okb (c : UInt8) : Bool := decide (32 ≤ c.toNat) && decide (c.toNat ≤ 126)
theorem tx_end {s : List UInt8} (h : ∀ k, k < s.length → okb (s.getD k 0) = true) : isTx s = decide (s.length ≤ 40) := by
  have : s.all (fun c => decide (32 ≤ c.toNat) && decide (c.toNat ≤ 126)) = true := (all_getD 0).2 h
  rw [isTx, this, Bool.true_and]
theorem tx_bad {s : List UInt8} {k : Nat} (hk : k < s.length) (h : okb (s.getD k 0) = false) : isTx s = false := by
  have : s.all (fun c => decide (32 ≤ c.toNat) && decide (c.toNat ≤ 126)) = false := all_not 0 hk h
  rw [isTx, this, Bool.false_and]
theorem byte_lt (s : List UInt8) (i : Nat) : (s.getD i 0).toNat < 256 := UInt8.toNat_lt _
set_option maxHeartbeats 4000000 in
theorem Tryz.specTx_ok (s : List UInt8) (hs : s.length ≤ 1048576) : PCall Tryz.prog 155 [str s] (.val (.bool (isTx s))) := by
  refine FCall.pcall (R := fun r _ => r = .val (.bool (isTx s))) ?_ 0 (by rintro r H rfl; exact zg)
  refine FCall.of_body Tryz.func155 rfl (by kernel_rfl) (by simp [Tryz.ntmps155]) ?_
  refine SW_of_vc Tryz.mixed _ _ _ (by kernel_rfl) ?_
  simp (disch := omega) only [go_sem]
  refine LoopW.loop (fun i : Nat => ⟨ofL [(0, str s), (2, .val (.bool false)), (3, .val (.int .i64 i))], hp [] 0⟩) (fun i => i ≤ s.length ∧ ∀ k, k < i → okb (s.getD k 0) = true) (fun i => s.length - i) 0 ⟨by omega, fun k h => by omega⟩ (Wk.of (by simp only [go_sem, ↓List.forall_mem_cons, List.not_mem_nil, false_implies, implies_true, and_true, true_and, and_self, ri_eq, Int.natCast_add, Int.cast_ofNat_Int]; try simp) rfl) ?_
  rintro i ⟨hi, hb⟩
  refine SW_of_vc Tryz.mixed _ _ _ (by kernel_rfl) ?_
  by_cases hlt : i < s.length
  · have hix := sb_ix hlt
    have hbl := byte_lt s i
    have hok : okb (s.getD i 0) = (decide (32 ≤ (s.getD i 0).toNat) && decide ((s.getD i 0).toNat ≤ 126)) := rfl
    have htx := tx_bad hlt
    obtain ⟨x, hx⟩ : ∃ x : Nat, (s.getD i 0).toNat = x := ⟨_, rfl⟩
    rw [hx] at hok hbl
    by_cases h1 : x < 32
    · rw [htx (by rw [hok, decide_eq_false (by omega), Bool.false_and])]
      simp (disch := omega) only [go_sem, hix, hx]
      exact Fin.val rfl
    · by_cases h2 : 126 < x
      · rw [htx (by rw [hok, decide_eq_false (show ¬ x ≤ 126 by omega), Bool.and_false])]
        simp (disch := omega) only [go_sem, hix, hx]
        exact Fin.val rfl
      · have hb1 : okb (s.getD i 0) = true := by rw [hok, decide_eq_true (by omega), decide_eq_true (by omega)]; rfl
        simp (disch := omega) only [go_sem, hix, hx]
        refine ⟨i + 1, ⟨hlt, fun k hk => ?_⟩, by omega, Wk.of (by simp only [go_sem, ↓List.forall_mem_cons, List.not_mem_nil, false_implies, implies_true, and_true, true_and, and_self, ri_eq, Int.natCast_add, Int.cast_ofNat_Int]; try simp) rfl⟩
        rcases Nat.lt_succ_iff_lt_or_eq.1 hk with g | g
        · exact hb k g
        · rw [g]; exact hb1
  · obtain rfl : i = s.length := by omega
    rw [tx_end hb, show decide (s.length ≤ 40) = decide ((s.length : Int) ≤ 40) from decide_eq_decide.2 (by omega)]
    simp (disch := omega) only [go_sem]
    exact Fin.val rfl
set_option maxHeartbeats 4000000 in
theorem Tryz.implTx_ok (s : List UInt8) (hs : s.length ≤ 1048576) : PCall Tryz.prog 176 [str s] (.val (.bool (isTx s))) := by
  refine FCall.pcall (R := fun r _ => r = .val (.bool (isTx s))) ?_ 0 (by rintro r H rfl; exact zg)
  refine FCall.of_body Tryz.func176 rfl (by kernel_rfl) (by simp [Tryz.ntmps176]) ?_
  refine SW_of_vc Tryz.mixed _ _ _ (by kernel_rfl) ?_
  simp (disch := omega) only [go_sem]
  refine LoopW.loop (fun i : Nat => ⟨ofL [(0, str s), (2, .val (.bool false)), (5, .val (.int .i64 s.length)), (6, .val (.int .i64 i))], hp [] 0⟩) (fun i => i ≤ s.length ∧ ∀ k, k < i → okb (s.getD k 0) = true) (fun i => s.length - i) 0 ⟨by omega, fun k h => by omega⟩ (Wk.of (by simp only [go_sem, ↓List.forall_mem_cons, List.not_mem_nil, false_implies, implies_true, and_true, true_and, and_self, ri_eq, Int.natCast_add, Int.cast_ofNat_Int]; try simp) rfl) ?_
  rintro i ⟨hi, hb⟩
  refine SW_of_vc Tryz.mixed _ _ _ (by kernel_rfl) ?_
  by_cases hlt : i < s.length
  · have hix := sb_ix hlt
    have hbl := byte_lt s i
    have hok : okb (s.getD i 0) = (decide (32 ≤ (s.getD i 0).toNat) && decide ((s.getD i 0).toNat ≤ 126)) := rfl
    have htx := tx_bad hlt
    obtain ⟨x, hx⟩ : ∃ x : Nat, (s.getD i 0).toNat = x := ⟨_, rfl⟩
    rw [hx] at hok hbl
    have ww := Tryz.within_ok (x : Int) 32 126
    have hin : inR (x : Int) 32 126 = okb (s.getD i 0) := by
      rw [hok]; simp only [inR]
      rw [Bool.eq_iff_iff]; simp; omega
    rw [hin] at ww
    cases hk : okb (s.getD i 0) with
    | false =>
      rw [hk] at ww
      rw [htx hk]
      simp (disch := omega) only [go_sem, hix, hx]
      refine ww.callV 0 (z6 (z8) (z6 (z8) (z6 (z8) z7))) ?_
      simp (disch := omega) only [go_sem]
      exact Fin.val rfl
    | true =>
      rw [hk] at ww
      simp (disch := omega) only [go_sem, hix, hx]
      refine ww.callV 0 (z6 (z8) (z6 (z8) (z6 (z8) z7))) ?_
      simp (disch := omega) only [go_sem]
      refine ⟨i + 1, ⟨hlt, fun k hk' => ?_⟩, by omega, Wk.of (by simp only [go_sem, ↓List.forall_mem_cons, List.not_mem_nil, false_implies, implies_true, and_true, true_and, and_self, ri_eq, Int.natCast_add, Int.cast_ofNat_Int]; try simp) rfl⟩
      rcases Nat.lt_succ_iff_lt_or_eq.1 hk' with g | g
      · exact hb k g
      · rw [g]; exact hk
  · obtain rfl : i = s.length := by omega
    rw [tx_end hb, show decide (s.length ≤ 40) = decide ((s.length : Int) ≤ 40) from decide_eq_decide.2 (by omega)]
    simp (disch := omega) only [go_sem]
    exact Fin.val rfl
set_option maxHeartbeats 4000000 in
theorem Tryz.specFd_ok (s : List UInt8) (hs : s.length ≤ 1048576) : PCall Tryz.prog 113 [str s] (.val (.bool (isFd s))) := by
  refine FCall.pcall (R := fun r _ => r = .val (.bool (isFd s))) ?_ 0 (by rintro r H rfl; exact zg)
  have wt := Tryz.specTx_ok s hs
  refine FCall.of_body Tryz.func113 rfl (by kernel_rfl) (by simp [Tryz.ntmps113]) ?_
  refine SW_of_vc Tryz.mixed _ _ _ (by kernel_rfl) ?_
  simp (disch := omega) only [go_sem]
  refine LoopW.loop (fun i : Nat => ⟨ofL [(0, str s), (2, .val (.bool false)), (3, .val (.int .i64 i))], hp [] 0⟩) (fun i => i ≤ s.length ∧ ∀ k, k < i → (fun c : UInt8 => c != 124 && c != 59) (s.getD k 0) = true) (fun i => s.length - i) 0 ⟨by omega, fun k h => by omega⟩ (Wk.of (by simp only [go_sem, ↓List.forall_mem_cons, List.not_mem_nil, false_implies, implies_true, and_true, true_and, and_self, ri_eq, Int.natCast_add, Int.cast_ofNat_Int]; try simp) rfl) ?_
  rintro i ⟨hi, hb⟩
  refine SW_of_vc Tryz.mixed _ _ _ (by kernel_rfl) ?_
  by_cases hlt : i < s.length
  · have hix := sb_ix hlt
    have hno := fun h => all_not (p := fun c : UInt8 => c != 124 && c != 59) 0 hlt h
    by_cases h1 : s.getD i 0 = 124
    · have hf : isFd s = false := by rw [isFd, hno (by rw [h1]; rfl), Bool.and_false]
      rw [hf]
      have e1 : (((s.getD i 0).toNat : Int) == 124) = true := by rw [h1]; rfl
      simp (disch := omega) only [go_sem, hix, e1]
      exact Fin.val rfl
    · have e1 : (((s.getD i 0).toNat : Int) == 124) = false := by
        rw [beq_eq_false_iff_ne]; intro e; exact h1 (UInt8.toNat_inj.1 (by rw [show (124 : UInt8).toNat = 124 from rfl]; omega))
      by_cases h2 : s.getD i 0 = 59
      · have hf : isFd s = false := by rw [isFd, hno (by rw [h2]; rfl), Bool.and_false]
        rw [hf]
        have e2 : (((s.getD i 0).toNat : Int) == 59) = true := by rw [h2]; rfl
        simp (disch := omega) only [go_sem, hix, e1, e2]
        exact Fin.val rfl
      · have e2 : (((s.getD i 0).toNat : Int) == 59) = false := by
          rw [beq_eq_false_iff_ne]; intro e; exact h2 (UInt8.toNat_inj.1 (by rw [show (59 : UInt8).toNat = 59 from rfl]; omega))
        simp (disch := omega) only [go_sem, hix, e1, e2]
        refine ⟨i + 1, ⟨hlt, fun k hk' => ?_⟩, by omega, Wk.of (by simp only [go_sem, ↓List.forall_mem_cons, List.not_mem_nil, false_implies, implies_true, and_true, true_and, and_self, ri_eq, Int.natCast_add, Int.cast_ofNat_Int]; try simp) rfl⟩
        rcases Nat.lt_succ_iff_lt_or_eq.1 hk' with g | g
        · exact hb k g
        · rw [g]; simp only [bne_iff_ne.2 h1, bne_iff_ne.2 h2, Bool.and_self]
  · obtain rfl : i = s.length := by omega
    have he : isFd s = isTx s := by rw [isFd, (all_getD 0).2 hb, Bool.and_true]
    rw [he]
    simp (disch := omega) only [go_sem]
    refine wt.callV 0 (z6 zd z7) ?_
    simp (disch := omega) only [go_sem]
    exact Fin.val rfl
theorem indexAny_any : ∀ (s t : List UInt8), (0 ≤ Lib.indexAny s t) ↔ s.any (fun c => t.contains c) = true
  | [], t => by simp [Lib.indexAny]
  | b :: s, t => by
    have ih := indexAny_any s t
    have hg := Lib.indexAny_ge t s
    rw [Lib.indexAny, List.any_cons]
    cases hb : t.contains b with
    | true => simp
    | false =>
      simp only [Bool.false_eq_true, ↓reduceIte, Bool.false_or, ← ih]
      by_cases h : Lib.indexAny s t = -1
      · simp [h]
      · have : (Lib.indexAny s t == -1) = false := beq_eq_false_iff_ne.2 h
        rw [this]; simp only [Bool.false_eq_true, ↓reduceIte]; omega
theorem repl1 (c : UInt8) : ∀ (n : Nat) (s : List UInt8), s.length ≤ n → ∀ k, s.count c ≤ k → Lib.replaceK [c] [] k s = s.filter fun x => x != c
  | n, s, hn, k, hk => by
    by_cases hm : c ∈ s
    · obtain ⟨p, q, rfl, hp⟩ := List.eq_append_cons_of_mem hm
      cases n with
      | zero => simp at hn
      | succ n =>
        have hc : (p ++ c :: q).count c = q.count c + 1 := by
          rw [List.count_append, List.count_cons_self, List.count_eq_zero.2 hp]; omega
        cases k with
        | zero => omega
        | succ k =>
          have hi : Lib.index (p ++ c :: q) [c] = p.length := by
            have := idx_app (a := c) (sub := []) (q := q) hp
            simpa using this
          rw [Lib.replaceK_hit _ _ _ _ _ hi]
          have e1 : (p ++ c :: q).take p.length = p := by simp
          have e2 : (p ++ c :: q).drop (p.length + [c].length) = q := by simp [List.drop_append]
          rw [e1, e2, repl1 c n q (by simp at hn; omega) k (by omega)]
          have hpf : p.filter (fun x => x != c) = p := List.filter_eq_self.2 fun x hx => by
            simp only [bne_iff_ne]; rintro rfl; exact hp hx
          simp [List.filter_append, hpf]
    · have hf : s.filter (fun x => x != c) = s := List.filter_eq_self.2 fun x hx => by
        simp only [bne_iff_ne]; rintro rfl; exact hm hx
      rw [hf]
      cases k with
      | zero => rfl
      | succ k =>
        have := idx_no (a := c) (sub := []) hm
        rw [Lib.replaceK, this]; rfl
theorem cnt1 (c : UInt8) : ∀ (fuel : Nat) (s : List UInt8), s.count c < fuel → Lib.countFrom [c] fuel s = s.count c
  | 0, s, h => by omega
  | fuel + 1, s, h => by
    by_cases hm : c ∈ s
    · obtain ⟨p, q, rfl, hp⟩ := List.eq_append_cons_of_mem hm
      have hc : (p ++ c :: q).count c = q.count c + 1 := by
        rw [List.count_append, List.count_cons_self, List.count_eq_zero.2 hp]; omega
      have hi : Lib.index (p ++ c :: q) [c] = p.length := by
        have := idx_app (a := c) (sub := []) (q := q) hp
        simpa using this
      have e2 : (p ++ c :: q).drop ((p.length : Int).toNat + [c].length) = q := by simp [List.drop_append]
      rw [Lib.countFrom, hi, if_neg (by simp), e2, cnt1 c fuel q (by omega), hc]; omega
    · have := idx_no (a := c) (sub := []) hm
      rw [Lib.countFrom, this, List.count_eq_zero.2 hm]; rfl
theorem replAll1 (s : List UInt8) (c : UInt8) : Lib.replaceAll s [c] [] = s.filter fun x => x != c := by
  have hc := cnt1 c (s.length + 1) s (by have := List.count_le_length (a := c) (l := s); omega)
  have hn : Lib.replaceNum s [c] (-1) = s.count c := by rw [Lib.replaceNum, if_pos (.inl (by omega)), Lib.count, hc]
  rw [Lib.replaceAll, Lib.replace, if_neg (by simp), hn, repl1 c s.length s (Nat.le_refl _) _ (Nat.le_refl _)]
theorem Tryz.maxLa {O : Nat → Prop} {w : World} (h : TabOk O w) : ∃ m, w.cell? ⟨1, 0, none⟩ = some (.int .i64 m) := by
  obtain ⟨_, hc⟩ := h (1, [fun v => ∃ m, v = Value.int .i64 m]) (by simp [TABS])
  obtain ⟨v, h1, ⟨m, rfl⟩, _⟩ := hc 0 _ rfl
  exact ⟨m, h1⟩
theorem Tryz.containsAny_ok (s t : List UInt8) (hs : s.length ≤ 1048576) (ht : t.length ≤ 1048576) (ha : ∀ c ∈ s, c.toNat < 128) (hb : ∀ c ∈ t, c.toNat < 128) : PCall Tryz.prog 177 [str s, str t] (.val (.bool (Lib.containsAny s t))) := by
  refine ⟨⟨_, Tryz.func177, rfl, rfl⟩, fun w vs hl _ => ?_⟩
  simp only [LRel, VRel] at hl
  obtain ⟨x, rest, rfl, rfl, y, rest, rfl, rfl, rfl⟩ := hl
  refine (Tryz.strings_ContainsAny_laid (sb s) (sb t) w (by rw [sb_size]; omega) (by rw [sb_size]; omega) (fun j b h => ha b (by rw [sb_data] at h; exact List.mem_of_getElem? h)) (fun j b h => hb b (by rw [sb_data] at h; exact List.mem_of_getElem? h))).mono ?_
  rintro e w' ⟨rfl, hw⟩
  refine ⟨_, rfl, hw, ?_⟩
  simp only [VRel, sb_data]
theorem Tryz.trimSuffix_ok (s t : List UInt8) (hs : s.length ≤ 1048576) : PCall Tryz.prog 219 [str s, str t] (str (Lib.trimSuffix s t)) := by
  refine ⟨⟨_, Tryz.func219, rfl, rfl⟩, fun w vs hl _ => ?_⟩
  simp only [LRel, VRel] at hl
  obtain ⟨x, rest, rfl, rfl, y, rest, rfl, rfl, rfl⟩ := hl
  refine (Tryz.strings_TrimSuffix (sb s) (sb t) w (by rw [sb_size]; omega)).mono ?_
  rintro e w' ⟨rfl, rfl⟩
  refine ⟨_, rfl, RowKit.Below.refl _ _, ?_⟩
  simp only [VRel, sb_data, sb_mk]
theorem Tryz.hasSuffix_ok (s t : List UInt8) (hs : s.length ≤ 1048576) : PCall Tryz.prog 148 [str s, str t] (.val (.bool (Lib.hasSuffix s t))) := by
  refine ⟨⟨_, Tryz.func148, rfl, rfl⟩, fun w vs hl _ => ?_⟩
  simp only [LRel, VRel] at hl
  obtain ⟨x, rest, rfl, rfl, y, rest, rfl, rfl, rfl⟩ := hl
  refine (Tryz.strings_HasSuffix (sb s) (sb t) w (by rw [sb_size]; omega)).mono ?_
  rintro e w' ⟨rfl, rfl⟩
  refine ⟨_, rfl, RowKit.Below.refl _ _, ?_⟩
  simp only [VRel, sb_data]
theorem Tryz.replaceAll_ok (s : List UInt8) (c : UInt8) (hs : s.length ≤ 1048576) : PCall Tryz.prog 221 [str s, str [c], str []] (str (Lib.replaceAll s [c] [])) := by
  refine ⟨⟨_, Tryz.func221, rfl, rfl⟩, fun w vs hl ht => ?_⟩
  simp only [LRel, VRel] at hl
  obtain ⟨x, rest, rfl, rfl, y, rest, rfl, rfl, z, rest, rfl, rfl, rfl⟩ := hl
  obtain ⟨m, hm⟩ := Tryz.maxLa ht
  refine (Tryz.strings_ReplaceAll (sb s) (sb [c]) (sb []) m w (by rw [sb_size]; omega) hm (by rw [sb_size]; simp) (by rw [sb_size, sb_size]; simp; omega)).mono ?_
  rintro e w' ⟨rfl, hw⟩
  refine ⟨_, rfl, hw, ?_⟩
  simp only [VRel, sb_data, sb_mk]
set_option maxHeartbeats 4000000 in
theorem Tryz.implFd_ok (s : List UInt8) (hs : s.length ≤ 1048576) : PCall Tryz.prog 134 [str s] (.val (.bool (isFd s))) := by
  refine FCall.pcall (R := fun r _ => r = .val (.bool (isFd s))) ?_ 0 (by rintro r H rfl; exact zg)
  have wt := Tryz.implTx_ok s hs
  refine FCall.of_body Tryz.func134 rfl (by kernel_rfl) (by simp [Tryz.ntmps134]) ?_
  refine SW_of_vc Tryz.mixed _ _ _ (by kernel_rfl) ?_
  cases hx : isTx s with
  | false =>
    rw [hx] at wt
    have hf : isFd s = false := by rw [isFd, hx, Bool.false_and]
    rw [hf]
    simp (disch := omega) only [go_sem]
    refine wt.callV 0 (z6 zd z7) ?_
    simp (disch := omega) only [go_sem]
    exact Fin.val rfl
  | true =>
    rw [hx] at wt
    have hax : ∀ c ∈ s, c.toNat < 128 := fun c hc => by
      simp only [isTx, Bool.and_eq_true, List.all_eq_true, decide_eq_true_eq] at hx
      have := (hx.1 c hc).2; omega
    have wc := Tryz.containsAny_ok s [124, 59] hs (by simp) hax (by decide)
    have he : isFd s = !Lib.containsAny s [124, 59] := by
      rw [isFd, hx, Bool.true_and, Bool.eq_iff_iff]
      have := indexAny_any s [124, 59]
      simp only [Lib.containsAny, Bool.not_eq_true', decide_eq_false_iff_not, this, List.any_eq_true, List.all_eq_true, List.contains_cons, not_exists, not_and]
      simp
    rw [he]
    simp (disch := omega) only [go_sem]
    refine wt.callV 0 (z6 zd z7) ?_
    simp (disch := omega) only [go_sem]
    refine wc.callV 0 (z6 zd (z6 zd z7)) ?_
    simp (disch := omega) only [go_sem]
    exact Fin.val rfl
end Go.Sh

/-
  Normal forms: contracts.
-/
namespace Go.Sh
open Go Go.Proofs

theorem u8c_length (l : List UInt8) : (u8c l).length = l.length := by simp [u8c]
theorem u8c_snoc (l : List UInt8) (c : UInt8) : u8c l ++ [.val (.int .u8 (c.toNat : Int))] = u8c (l ++ [c]) := by simp [u8c]
theorem u8c_at {l : List UInt8} {k : Nat} (h : k < l.length) : (u8c l)[k]? = some (.val (.int .u8 ((l.getD k 0).toNat : Int))) := by simp [u8c, h]
theorem u8c_set (l : List UInt8) (k : Nat) (c : UInt8) : (u8c l).set k (.val (.int .u8 (c.toNat : Int))) = u8c (l.set k c) := by simp [u8c, List.map_set]
theorem u8_add {c : UInt8} (h : isCp c = true) : IntKind.u8.wrap ((c.toNat : Int) + 32) = ((fc c).toNat : Int) := by
  have hc := h
  simp only [isCp, Bool.and_eq_true, decide_eq_true_eq] at h
  rw [wrap8_id (by omega) (by omega), fc, if_pos hc, UInt8.toNat_ofNat']; omega
theorem fc_no {c : UInt8} (h : isCp c = false) : fc c = c := by rw [fc, if_neg (by simp [h])]
theorem cp_f {c : UInt8} (h : isCp c = false) : ¬ 65 ≤ c.toNat ∨ (65 ≤ c.toNat ∧ ¬ c.toNat ≤ 90) := by
  simp only [isCp, Bool.and_eq_false_iff, decide_eq_false_iff_not] at h
  omega
theorem cp_t {c : UInt8} (h : isCp c = true) : 65 ≤ c.toNat ∧ c.toNat ≤ 90 := by
  simpa only [isCp, Bool.and_eq_true, decide_eq_true_eq] using h
set_option maxHeartbeats 4000000 in
theorem Tryz.specFold_ok (s : List UInt8) (hs : s.length ≤ 1048576) : PCall Tryz.prog 158 [str s] (str (s.map fc)) := by
  refine FCall.pcall (R := fun r _ => r = str (s.map fc)) ?_ 0 (by rintro r H rfl; exact zd)
  refine FCall.of_body Tryz.func158 rfl (by kernel_rfl) (by simp [Tryz.ntmps158]) ?_
  refine SW_of_vc Tryz.mixed _ _ _ (by kernel_rfl) ?_
  simp (disch := omega) only [go_sem]
  refine LoopW.loop (fun p : Nat × Nat × Nat => ⟨ofL [(0, str s), (3, .own p.2.1 0 p.1 p.1 1 false), (4, .val (.int .i64 p.1))], hx [.blk p.2.1 ⟨u8c ((s.take p.1).map fc), false⟩] p.2.2⟩)
    (fun p => p.1 ≤ s.length ∧ p.2.1 < p.2.2) (fun p => s.length - p.1) (0, 0, 1) ⟨by simp, by simp⟩
    (Wk.ofX (by simp only [go_sem, ↓List.forall_mem_cons, List.not_mem_nil, false_implies, implies_true, and_true, true_and, and_self, ri_eq, Int.natCast_add, Int.cast_ofNat_Int]; try simp) (by simp [EntIn, hp, hmap, u8c]) (by simp [hp])) ?_
  rintro ⟨i, ob, nb⟩ ⟨hi, hob⟩
  simp only at hi hob
  have hPs : (u8c ((s.take i).map fc)).length = i := by rw [u8c_length, List.length_map, List.length_take]; omega
  have hPt : (u8c ((s.take i).map fc)).take i = u8c ((s.take i).map fc) := List.take_of_length_le (by omega)
  refine SW_of_vc Tryz.mixed _ _ _ (by kernel_rfl) ?_
  by_cases hlt : i < s.length
  · have hix := sb_ix hlt
    have hsn : u8c ((s.take i).map fc) ++ [.val (.int .u8 ((fc (s.getD i 0)).toNat : Int))] = u8c ((s.take (i + 1)).map fc) := by rw [u8c_snoc, take_at 0 hlt]; simp
    have hbl := byte_lt s i
    cases hc : isCp (s.getD i 0) with
    | true =>
      have ha := u8_add hc
      have hr := cp_t hc
      simp (disch := omega) only [go_sem, hix, ha, hPs, hPt, hsn]
      refine ⟨(i + 1, nb + 1, nb + 1 + 1), ⟨hlt, by simp only; omega⟩, by simp only; omega, ?_⟩
      refine Wk.ofX (by simp only [go_sem, ↓List.forall_mem_cons, List.not_mem_nil, false_implies, implies_true, and_true, true_and, and_self, ri_eq, Int.natCast_add, Int.cast_ofNat_Int]; try simp) ?_ (Nat.le_refl _)
      simp only [List.forall_mem_cons]
      refine ⟨?_, by simp⟩
      simp (disch := omega) only [EntIn, hx_map, zl, if_pos, if_neg, ↓reduceIte]
    | false =>
      rw [fc_no hc] at hsn
      rcases cp_f hc with hr | hr
      · simp (disch := omega) only [go_sem, hix, hPs, hPt, hsn]
        refine ⟨(i + 1, nb + 1, nb + 1 + 1), ⟨hlt, by simp only; omega⟩, by simp only; omega, ?_⟩
        refine Wk.ofX (by simp only [go_sem, ↓List.forall_mem_cons, List.not_mem_nil, false_implies, implies_true, and_true, true_and, and_self, ri_eq, Int.natCast_add, Int.cast_ofNat_Int]; try simp) ?_ (Nat.le_refl _)
        simp only [List.forall_mem_cons]
        refine ⟨?_, by simp⟩
        simp (disch := omega) only [EntIn, hx_map, zl, if_pos, if_neg, ↓reduceIte]
      · simp (disch := omega) only [go_sem, hix, hPs, hPt, hsn]
        refine ⟨(i + 1, nb + 1, nb + 1 + 1), ⟨hlt, by simp only; omega⟩, by simp only; omega, ?_⟩
        refine Wk.ofX (by simp only [go_sem, ↓List.forall_mem_cons, List.not_mem_nil, false_implies, implies_true, and_true, true_and, and_self, ri_eq, Int.natCast_add, Int.cast_ofNat_Int]; try simp) ?_ (Nat.le_refl _)
        simp only [List.forall_mem_cons]
        refine ⟨?_, by simp⟩
        simp (disch := omega) only [EntIn, hx_map, zl, if_pos, if_neg, ↓reduceIte]
  · obtain rfl : i = s.length := by omega
    rw [List.take_length] at hPs hPt
    simp (disch := omega) only [go_sem, hPs, hPt, List.take_length]
    exact Fin.val rfl
theorem rg_tt {c : UInt8} {a b : Nat} (h : (decide (a ≤ c.toNat) && decide (c.toNat ≤ b)) = true) : a ≤ c.toNat ∧ c.toNat ≤ b := by simpa using h
theorem rg_ff {c : UInt8} {a b : Nat} (h : (decide (a ≤ c.toNat) && decide (c.toNat ≤ b)) = false) : ¬ a ≤ c.toNat ∨ (a ≤ c.toNat ∧ ¬ c.toNat ≤ b) := by
  simp only [Bool.and_eq_false_iff, decide_eq_false_iff_not] at h; omega
theorem u8arg (c : UInt8) : 0 ≤ (c.toNat : Int) ∧ (c.toNat : Int) ≤ 255 := by have := UInt8.toNat_lt c; omega
set_option maxHeartbeats 4000000 in
theorem Tryz.l2Word_ok (c : UInt8) : PCall Tryz.prog 201 [.val (.int .u8 c.toNat)] (.val (.bool (isWd c))) := by
  refine FCall.pcall (R := fun r _ => r = .val (.bool (isWd c))) ?_ 0 (by rintro r H rfl; exact zg)
  refine FCall.of_body Tryz.func201 rfl (by kernel_rfl) (by simp [Tryz.ntmps201]) ?_
  refine SW_of_vc Tryz.mixed _ _ _ (by kernel_rfl) ?_
  rw [isWd]
  have hb := u8arg c
  cases h1 : isSm c with
  | true =>
    have g := rg_tt h1
    simp (disch := omega) only [go_sem]
    exact Fin.val rfl
  | false =>
    rcases rg_ff h1 with g | g <;> cases h2 : isCp c with
    | true =>
      have g2 := rg_tt h2
      simp (disch := omega) only [go_sem]
      exact Fin.val rfl
    | false =>
      rcases rg_ff h2 with g2 | g2 <;> cases h3 : isDg c with
      | true =>
        have g3 := rg_tt h3
        simp (disch := omega) only [go_sem]
        exact Fin.val rfl
      | false =>
        rcases rg_ff h3 with g3 | g3 <;> first | (exfalso; omega) | (simp (disch := omega) only [go_sem]; exact Fin.val rfl)
set_option maxHeartbeats 4000000 in
theorem Tryz.isSmall_ok (c : UInt8) : PCall Tryz.prog 230 [.val (.int .u8 c.toNat)] (.val (.bool (isSm c))) := by
  refine FCall.pcall (R := fun r _ => r = .val (.bool (isSm c))) ?_ 0 (by rintro r H rfl; exact zg)
  refine FCall.of_body Tryz.func230 rfl (by kernel_rfl) (by simp [Tryz.ntmps230]) ?_
  refine SW_of_vc Tryz.mixed _ _ _ (by kernel_rfl) ?_
  have hb := u8arg c
  cases h1 : isSm c with
  | true =>
    have g := rg_tt h1
    simp (disch := omega) only [go_sem]
    exact Fin.val rfl
  | false => rcases rg_ff h1 with g | g <;> (simp (disch := omega) only [go_sem]; exact Fin.val rfl)
theorem Tryz.isDigit_ok (c : UInt8) : PCall Tryz.prog 195 [.val (.int .u8 c.toNat)] (.val (.bool (isDg c))) := by
  refine FCall.pcall (R := fun r _ => r = .val (.bool (isDg c))) ?_ 0 (by rintro r H rfl; exact zg)
  refine FCall.of_body Tryz.func195 rfl (by kernel_rfl) (by simp [Tryz.ntmps195]) ?_
  refine SW_of_vc Tryz.mixed _ _ _ (by kernel_rfl) ?_
  have hb := u8arg c
  cases h1 : isDg c with
  | true =>
    have g := rg_tt h1
    simp (disch := omega) only [go_sem]
    exact Fin.val rfl
  | false => rcases rg_ff h1 with g | g <;> (simp (disch := omega) only [go_sem]; exact Fin.val rfl)
set_option maxHeartbeats 4000000 in
theorem Tryz.isWord_ok (c : UInt8) : PCall Tryz.prog 223 [.val (.int .u8 c.toNat)] (.val (.bool (isWd c))) := by
  refine FCall.pcall (R := fun r _ => r = .val (.bool (isWd c))) ?_ 0 (by rintro r H rfl; exact zg)
  have ws := Tryz.isSmall_ok c
  have wd := Tryz.isDigit_ok c
  refine FCall.of_body Tryz.func223 rfl (by kernel_rfl) (by simp [Tryz.ntmps223]) ?_
  refine SW_of_vc Tryz.mixed _ _ _ (by kernel_rfl) ?_
  rw [isWd]
  have hb := u8arg c
  cases h1 : isSm c with
  | true =>
    rw [h1] at ws
    simp (disch := omega) only [go_sem]
    refine ws.callV 0 (z6 (z8) z7) ?_
    simp (disch := omega) only [go_sem]
    exact Fin.val rfl
  | false =>
    rw [h1] at ws
    cases h2 : isCp c with
    | true =>
      have g2 := rg_tt h2
      simp (disch := omega) only [go_sem]
      refine ws.callV 0 (z6 (z8) z7) ?_
      simp (disch := omega) only [go_sem]
      exact Fin.val rfl
    | false =>
      rcases rg_ff h2 with g2 | g2
      · simp (disch := omega) only [go_sem]
        refine ws.callV 0 (z6 (z8) z7) ?_
        simp (disch := omega) only [go_sem]
        refine wd.callV 0 (z6 (z8) z7) ?_
        simp (disch := omega) only [go_sem]
        exact Fin.val rfl
      · simp (disch := omega) only [go_sem]
        refine ws.callV 0 (z6 (z8) z7) ?_
        simp (disch := omega) only [go_sem]
        refine wd.callV 0 (z6 (z8) z7) ?_
        simp (disch := omega) only [go_sem]
        exact Fin.val rfl
theorem wd_t {c : UInt8} (h : isWd c = true) : fw c = c := by rw [fw, if_pos h]
theorem stp_snoc {l : List UInt8} {k : Nat} (h : k < l.length) : stp (l.take (k + 1)) = stp (l.take k) ++ (if l.getD k 0 = 39 then [] else [fw (l.getD k 0)]) := by
  rw [take_at 0 h, stp, stp, List.filter_append, List.map_append]
  congr 1
  by_cases hc : l.getD k 0 = 39
  · rw [if_pos hc, hc]; rfl
  · rw [if_neg hc, List.filter_cons, if_pos (by simpa using hc)]; rfl
theorem stp_le {l : List UInt8} {k : Nat} : (stp (l.take k)).length ≤ k := by
  have := stp_length (l.take k); rw [List.length_take] at this; omega
theorem u8_ne {c d : UInt8} (h : c ≠ d) : ((c.toNat : Int) == (d.toNat : Int)) = false := by
  rw [beq_eq_false_iff_ne]; intro e; exact h (UInt8.toNat_inj.1 (by omega))
theorem u8_eq {c d : UInt8} (h : c = d) : ((c.toNat : Int) == (d.toNat : Int)) = true := by rw [h]; simp
set_option maxHeartbeats 8000000 in
theorem Tryz.specStrip_ok (s : List UInt8) (hs : s.length ≤ 1048576) : PCall Tryz.prog 157 [str s] (str (stp s)) := by
  refine FCall.pcall (R := fun r _ => r = str (stp s)) ?_ 0 (by rintro r H rfl; exact zd)
  refine FCall.of_body Tryz.func157 rfl (by kernel_rfl) (by simp [Tryz.ntmps157]) ?_
  refine SW_of_vc Tryz.mixed _ _ _ (by kernel_rfl) ?_
  simp (disch := omega) only [go_sem]
  refine LoopW.loop (fun p : Nat × Nat × Nat => ⟨ofL [(0, str s), (3, .own p.2.1 0 (stp (s.take p.1)).length (stp (s.take p.1)).length 1 false), (4, .val (.int .i64 p.1))], hx [.blk p.2.1 ⟨u8c (stp (s.take p.1)), false⟩] p.2.2⟩)
    (fun p => p.1 ≤ s.length ∧ p.2.1 < p.2.2) (fun p => s.length - p.1) (0, 0, 1) ⟨by simp, by simp⟩
    (Wk.ofX (by simp only [go_sem, ↓List.forall_mem_cons, List.not_mem_nil, false_implies, implies_true, and_true, true_and, and_self, ri_eq, Int.natCast_add, Int.cast_ofNat_Int, List.take_zero, stp, List.filter_nil, List.map_nil, List.length_nil]; try simp) (by simp [EntIn, hp, hmap, u8c, stp]) (by simp [hp])) ?_
  rintro ⟨i, ob, nb⟩ ⟨hi, hob⟩
  simp only at hi hob
  have hl := stp_le (l := s) (k := i)
  have hPs : (u8c (stp (s.take i))).length = (stp (s.take i)).length := u8c_length _
  have hPt : (u8c (stp (s.take i))).take (stp (s.take i)).length = u8c (stp (s.take i)) := List.take_of_length_le (by omega)
  refine SW_of_vc Tryz.mixed _ _ _ (by kernel_rfl) ?_
  by_cases hlt : i < s.length
  · have hix := sb_ix hlt
    have hst := stp_snoc hlt
    have ww := Tryz.l2Word_ok (s.getD i 0)
    have hb := u8arg (s.getD i 0)
    generalize hc0 : s.getD i 0 = c at *
    generalize hP : stp (s.take i) = P at *
    generalize hP2 : stp (s.take (i + 1)) = P2 at *
    have hsn : ∀ d : UInt8, u8c P ++ [.val (.int .u8 (d.toNat : Int))] = u8c (P ++ [d]) := u8c_snoc P
    have hsl : ∀ d : UInt8, (P ++ [d]).length = P.length + 1 := fun d => by simp
    have h32 : u8c P ++ [.val (.int .u8 32)] = u8c (P ++ [32]) := u8c_snoc P 32
    have fin : ∀ d : UInt8, P2 = P ++ [d] → ∃ y : Nat × Nat × Nat, (y.1 ≤ s.length ∧ y.2.1 < y.2.2) ∧ y.1 = i + 1 ∧ y.2.1 = nb + 1 ∧ y.2.2 = nb + 1 + 1 := fun d _ => ⟨(i + 1, nb + 1, nb + 1 + 1), ⟨hlt, by simp only; omega⟩, rfl, rfl, rfl⟩
    cases hw : isWd c with
    | true =>
      have hn : c ≠ 39 := by rintro rfl; simp [isWd, isSm, isCp, isDg] at hw
      rw [hw] at ww
      rw [if_neg hn, wd_t hw] at hst
      simp (disch := omega) only [go_sem, hix, hPs, hPt, hsn]
      refine ww.callV 0 (z6 (z8) z7) ?_
      simp (disch := omega) only [go_sem, hix, hPs, hPt, hsn]
      refine ⟨(i + 1, nb + 1, nb + 1 + 1), ⟨hlt, by simp only; omega⟩, by simp only; omega, ?_⟩
      refine Wk.ofX (by simp only [go_sem, ↓List.forall_mem_cons, List.not_mem_nil, false_implies, implies_true, and_true, true_and, and_self, ri_eq, Int.natCast_add, Int.cast_ofNat_Int, hP2, hst, hsl]; try simp) ?_ (Nat.le_refl _)
      simp only [List.forall_mem_cons]
      refine ⟨?_, by simp⟩
      simp (disch := omega) only [EntIn, hx_map, zl, if_pos, if_neg, ↓reduceIte, hP2, hst]
    | false =>
      rw [hw] at ww
      have hf : fw c = 32 := by rw [fw, if_neg (by simp [hw])]
      by_cases h2 : c = 32
      · subst h2
        rw [if_neg (by decide), hf] at hst
        have e2 : (((32 : UInt8).toNat : Int) == 32) = true := rfl
        simp (disch := omega) only [go_sem, hix, hPs, hPt, hsn, e2]
        refine ww.callV 0 (z6 (z8) z7) ?_
        simp (disch := omega) only [go_sem, hix, hPs, hPt, hsn, e2]
        refine ⟨(i + 1, nb + 1, nb + 1 + 1), ⟨hlt, by simp only; omega⟩, by simp only; omega, ?_⟩
        refine Wk.ofX (by simp only [go_sem, ↓List.forall_mem_cons, List.not_mem_nil, false_implies, implies_true, and_true, true_and, and_self, ri_eq, Int.natCast_add, Int.cast_ofNat_Int, hP2, hst, hsl]; try simp) ?_ (Nat.le_refl _)
        simp only [List.forall_mem_cons]
        refine ⟨?_, by simp⟩
        simp (disch := omega) only [EntIn, hx_map, zl, if_pos, if_neg, ↓reduceIte, hP2, hst]
      · have e2 : ((c.toNat : Int) == 32) = false := u8_ne h2
        by_cases h3 : c = 39
        · have e3 : ((c.toNat : Int) != 39) = false := by rw [bne, show ((c.toNat : Int) == 39) = true from u8_eq h3]; rfl
          rw [if_pos h3, List.append_nil] at hst
          simp (disch := omega) only [go_sem, hix, hPs, hPt, hsn, e2, e3]
          refine ww.callV 0 (z6 (z8) z7) ?_
          simp (disch := omega) only [go_sem, hix, hPs, hPt, hsn, e2, e3]
          refine ⟨(i + 1, ob, nb), ⟨hlt, hob⟩, by simp only; omega, ?_⟩
          refine Wk.ofX (by simp only [go_sem, ↓List.forall_mem_cons, List.not_mem_nil, false_implies, implies_true, and_true, true_and, and_self, ri_eq, Int.natCast_add, Int.cast_ofNat_Int, hP2, hst]; try simp) ?_ (Nat.le_refl _)
          simp only [List.forall_mem_cons]
          refine ⟨?_, by simp⟩
          simp (disch := omega) only [EntIn, hx_map, zl, if_pos, if_neg, ↓reduceIte, hP2, hst]
        · have e3 : ((c.toNat : Int) != 39) = true := by rw [bne, show ((c.toNat : Int) == 39) = false from u8_ne h3]; rfl
          rw [if_neg h3, hf] at hst
          simp (disch := omega) only [go_sem, hix, hPs, hPt, h32, e2, e3]
          refine ww.callV 0 (z6 (z8) z7) ?_
          simp (disch := omega) only [go_sem, hix, hPs, hPt, h32, e2, e3]
          refine ⟨(i + 1, nb + 1, nb + 1 + 1), ⟨hlt, by simp only; omega⟩, by simp only; omega, ?_⟩
          refine Wk.ofX (by simp only [go_sem, ↓List.forall_mem_cons, List.not_mem_nil, false_implies, implies_true, and_true, true_and, and_self, ri_eq, Int.natCast_add, Int.cast_ofNat_Int, hP2, hst, hsl]; try simp) ?_ (Nat.le_refl _)
          simp only [List.forall_mem_cons]
          refine ⟨?_, by simp⟩
          simp (disch := omega) only [EntIn, hx_map, zl, if_pos, if_neg, ↓reduceIte, hP2, hst]
  · obtain rfl : i = s.length := by omega
    rw [List.take_length] at hPs hPt
    simp (disch := omega) only [go_sem, hPs, hPt, List.take_length]
    exact Fin.val rfl
end Go.Sh

/-
  Lists of strings: what the library makes of them (sorted, compacted; the fields of a text).
-/
namespace Go.Sh
open Go Go.Proofs Go.Sort

theorem set_mid {L L' : List Wd} (hl : L'.length = L.length) {k : Nat} (hk : k < L.length) : (L'.take k ++ L.drop k).set k (L'.getD k []) = L'.take (k + 1) ++ L.drop (k + 1) := by
  rw [List.set_append_right _ _ (by simp; omega), List.length_take, show k - min k L'.length = 0 by omega, List.drop_eq_getElem_cons hk, List.set_cons_zero, take_at [] (by omega : k < L'.length), List.append_assoc]; rfl
theorem putRow_relK {j : JMap} {H : Heap} {w : World} (r : Rel j H w) {b : Nat} {L L' : List Wd} {e : Bool} (hb : H.map b = some ⟨strs L, e⟩) {rb base : Nat} (hj : j b = some (rb, base)) (hl : L'.length = L.length) (hH : Holds encStr w rb base L.toArray) :
    ∀ k, k ≤ L.length → Rel j (H.set b (some ⟨strs (L'.take k ++ L.drop k), e⟩)) (putRow encStr w rb base (L'.take k ++ L.drop k).toArray) ∧ Nx j H w j (H.set b (some ⟨strs (L'.take k ++ L.drop k), e⟩)) (putRow encStr w rb base (L'.take k ++ L.drop k).toArray)
  | 0, _ => by
    rw [List.take_zero, List.drop_zero, List.nil_append, H.set_same b _ (by rw [hb]), putRow_self _ _ _ _ _ hH]
    exact ⟨r, Nx.refl _ _ _⟩
  | k + 1, hk => by
    obtain ⟨r1, n1⟩ := putRow_relK r hb hj hl hH k (by omega)
    have hlen : (L'.take k ++ L.drop k).length = L.length := by simp; omega
    obtain ⟨_, _, r2, n2⟩ := setCell_rel r1 (blk := ⟨strs (L'.take k ++ L.drop k), e⟩) (Heap.map_set_same _ _ _) hj k (str (L'.getD k [])) (encStr (L'.getD k [])) (by show k < (strs _).length; rw [zj, hlen]; omega) (by simp only [VRel]; rfl)
    have e2 := putRow_set encStr w rb base (L'.take k ++ L.drop k).toArray k (L'.getD k []) (by simp; omega)
    rw [List.setIfInBounds_toArray, set_mid hl (by omega)] at e2
    have e3 : (strs (L'.take k ++ L.drop k)).set k (str (L'.getD k [])) = strs (L'.take (k + 1) ++ L.drop (k + 1)) := by rw [← set_mid hl (by omega)]; exact strs_set _ _ _
    rw [Heap.set_set, e2] at r2 n2
    simp only [e3] at r2 n2
    exact ⟨r2, n1.trans n2⟩
theorem putRow_rel {j : JMap} {H : Heap} {w : World} (r : Rel j H w) {b : Nat} {L L' : List Wd} {e : Bool} (hb : H.map b = some ⟨strs L, e⟩) {rb base : Nat} (hj : j b = some (rb, base)) (hl : L'.length = L.length) (hH : Holds encStr w rb base L.toArray) (n : Nat) (os : Array Obj) :
    Rel j (H.set b (some ⟨strs L', e⟩)) (grow (putRow encStr (Sort.ahead w n) rb base L'.toArray) os) ∧ Nx j H w j (H.set b (some ⟨strs L', e⟩)) (grow (putRow encStr (Sort.ahead w n) rb base L'.toArray) os) := by
  obtain ⟨r1, n1⟩ := putRow_relK r hb hj hl hH L.length (Nat.le_refl _)
  rw [← hl, List.take_length, hl, List.drop_length, List.append_nil] at r1 n1
  have hbel : RowKit.Below (putRow encStr w rb base L'.toArray).heap.size (putRow encStr w rb base L'.toArray) (grow (putRow encStr (Sort.ahead w n) rb base L'.toArray) os) :=
    ⟨rfl, rfl, rfl, by simp, fun k hk => by rw [heap_grow_old _ _ (by simpa using hk)]; rfl⟩
  obtain ⟨r2, n2⟩ := r1.below hbel
  exact ⟨r2, n1.trans n2⟩
theorem own_holds {j : JMap} {H : Heap} {w : World} (r : Rel j H w) {b : Nat} {L : List Wd} {e : Bool} (hb : H.map b = some ⟨strs L, e⟩) {rb base : Nat} (hj : j b = some (rb, base)) : Holds encStr w rb base L.toArray := by
  intro k hk
  have hk' : k < L.length := by simpa using hk
  obtain ⟨v, h1, h2⟩ := own_cells r hb hj (zn hk')
  simp only [VRel] at h2
  subst h2
  obtain ⟨_, hf, _⟩ := setCell_rel r hb hj k (str []) (encStr []) (by show k < (strs L).length; rw [zj]; exact hk') (by simp only [VRel]; rfl)
  refine ⟨?_, hf⟩
  rw [h1]
  simp [encStr, sb, hk']
theorem own_at {j : JMap} {w : World} {O : Nat → Prop} {b n cap : Nat} {ex : Bool} {v : Value} (h0 : 0 < n) (hv : VRel O w j (.own b 0 n cap 1 ex) v) : ∃ rb base cap', j b = some (rb, base) ∧ v = .slice (some ⟨rb, base, none⟩) n cap' ∧ n ≤ cap' ∧ rb < w.heap.size := by
  simp only [VRel] at hv
  obtain ⟨rb, base, a, cap', c, e, fr, h1, h2, h3, h4, h5, h6, h7, h8⟩ := hv
  have ha : a = ⟨rb, base, none⟩ := by
    rcases h6 with g | g
    · omega
    · rw [g]; rfl
  subst ha
  refine ⟨rb, base, cap', h1, h2, by omega, ?_⟩
  rcases Nat.lt_or_ge rb w.heap.size with g | g
  · exact g
  · rw [Array.getElem?_eq_none g] at h7; simp at h7
theorem Tryz.sort_ok (H : Heap) (b cap : Nat) (ex e : Bool) (L : List Wd) (h0 : L ≠ []) (hL : L.length ≤ 1048576) (hb : H.map b = some ⟨strs L, e⟩) :
    CallS Tryz.prog 190 [.own b 0 L.length cap 1 ex] H (fun r H' => r = .tup [] ∧ H' = H.set b (some ⟨strs (msort L), e⟩)) := by
  have hlp : 0 < L.length := List.length_pos_iff.2 h0
  refine ⟨⟨_, Tryz.func190, rfl, rfl⟩, fun j w vs r hl => ?_⟩
  simp only [LRel] at hl
  obtain ⟨v, rest, rfl, hv, rfl⟩ := hl
  obtain ⟨rb, base, cap', hj, rfl, hcap, hrb⟩ := own_at hlp hv
  have hH := own_holds r hb hj
  refine (Tryz.slices_Sort_string rb base cap' L w hH hrb (by omega)).mono ?_
  rintro e' w' ⟨rfl, n, os, rfl⟩
  obtain ⟨r2, n2⟩ := putRow_rel r hb hj (L' := msort L) (msort_length L) hH n os
  exact ⟨.tup [], _, j, _, rfl, r2, by simp only [VRel, LRel]; exact ⟨[], rfl, rfl⟩, n2, rfl, rfl⟩
theorem compactUp_le (d : Array Wd) (m : Nat) : (Lib.compactUpTo d m).length ≤ m := by
  rw [Lib.compactUpTo, List.length_map]
  have := List.length_filter_le (Lib.keeps d) (List.range m)
  simpa using this
theorem VRel.cut {O : Nat → Prop} {w : World} {j : JMap} {b n m cap : Nat} {ex : Bool} {a : Option Addr} {cap' : Nat} (hm : m ≤ n) (hv : VRel O w j (.own b 0 n cap 1 ex) (.slice a n cap')) : VRel O w j (.own b 0 m cap 1 ex) (.slice a m cap') := by
  simp only [VRel] at hv ⊢
  obtain ⟨rb, base, a', cap2, c, e, fr, h1, h2, h3, h4, h5, h6, h7, h8⟩ := hv
  obtain ⟨rfl, rfl⟩ : a = some a' ∧ cap' = cap2 := by simpa using h2
  exact ⟨rb, base, a', cap', c, e, fr, h1, rfl, by omega, h4, h5, h6, h7, h8⟩
def cpc (L : List Wd) : List Wd := Lib.compactUpTo L.toArray L.length ++ List.replicate (L.length - (Lib.compactUpTo L.toArray L.length).length) []
theorem Tryz.compact_ok (H : Heap) (b cap : Nat) (ex e : Bool) (L : List Wd) (h0 : L ≠ []) (hL : L.length ≤ 1048576) (hb : H.map b = some ⟨strs L, e⟩) :
    CallS Tryz.prog 191 [.own b 0 L.length cap 1 ex] H (fun r H' => r = .own b 0 (Lib.compactUpTo L.toArray L.length).length cap 1 ex ∧ H' = H.set b (some ⟨strs (cpc L), e⟩)) := by
  have hlp : 0 < L.length := List.length_pos_iff.2 h0
  have hle := compactUp_le L.toArray L.length
  refine ⟨⟨_, Tryz.func191, rfl, rfl⟩, fun j w vs r hl => ?_⟩
  simp only [LRel] at hl
  obtain ⟨v, rest, rfl, hv, rfl⟩ := hl
  obtain ⟨rb, base, cap', hj, rfl, hcap, hrb⟩ := own_at hlp hv
  have hH := own_holds r hb hj
  have w0 := Tryz.slices_Compact_string_arr rb base cap' L.toArray w hH (by simp; omega) (by simpa using hcap)
  simp only [List.size_toArray] at w0
  refine w0.mono ?_
  rintro e' w' ⟨rfl, q, rfl⟩
  obtain ⟨r2, n2⟩ := putRow_rel r hb hj (L' := cpc L) (by simp [cpc]; omega) hH q #[]
  rw [grow_empty] at r2 n2
  exact ⟨_, _, j, _, rfl, r2, (hv.nx r n2).cut hle, n2, rfl, rfl⟩
theorem j1_at {A : Nat} {b : Nat} {p : Nat × Nat} (h : (fun x => if x = 0 then some (A, 0) else none : JMap) b = some p) : b = 0 ∧ p = (A, 0) := by
  simp only at h
  split at h
  · rename_i h0; exact ⟨h0, by simpa using h.symm⟩
  · simp at h
theorem own_rel {w w' : World} {A n : Nat} {L : List Wd} {e : TypeId} (ht : TabOk (fun _ => False) w) (hbel : RowKit.Below w.heap.size w w') (hA : w.heap.size ≤ A) (hn : n = L.length)
    (hown : w'.ownsRow w.heap.size e 1 (.slice (some ⟨A, 0, none⟩) n n) n (L.map fun p => Value.string (sb p))) :
    Rel (fun x => if x = 0 then some (A, 0) else none) (Heap.one ⟨strs L, false⟩) w' ∧ VRel (OwnR (fun x => if x = 0 then some (A, 0) else none) (Heap.one ⟨strs L, false⟩)) w' (fun x => if x = 0 then some (A, 0) else none) (.own 0 0 n n 1 false) (.slice (some ⟨A, 0, none⟩) n n) ∧
      ∀ k, OwnR (fun x => if x = 0 then some (A, 0) else none) (Heap.one ⟨strs L, false⟩) k → k = A := by
  subst hn
  rcases hown.2 with ⟨h, _⟩ | ⟨g, cap, cur, hv, hg, hb, h1, h2, h3, h4⟩
  · cases h
  obtain ⟨rfl, rfl⟩ : A = g ∧ L.length = cap := by simpa using hv
  rw [Nat.mul_one] at h3 h4
  have ho : ∀ k, OwnR (fun x => if x = 0 then some (A, 0) else none) (Heap.one ⟨strs L, false⟩) k → k = A := by
    rintro k ⟨b, blk, base, g1, g2⟩
    have := (j1_at g2).2
    simp at this; exact this.1
  have hone : ∀ b blk, (Heap.one ⟨strs L, false⟩).map b = some blk → b = 0 ∧ blk = ⟨strs L, false⟩ := fun b blk h => by
    simp only [Heap.one] at h
    split at h
    · rename_i h0; exact ⟨h0, by simpa using h.symm⟩
    · simp at h
  refine ⟨⟨ht.tr (Below.tr hbel _ fun k hk => .inr (by rw [ho k hk]; exact hA)), fun b p h => ?_, fun b blk h => ?_, fun b b' k k' rb ba ba' h1 h2 h3 h4 => ?_⟩, ?_, ho⟩
  · rw [(j1_at h).1]; simp [Heap.one]
  · obtain ⟨rfl, rfl⟩ := hone b blk h
    refine ⟨A, 0, by simp, cur, e, 0, 0, hb, .inl (Nat.le_refl _), by simp only [zj]; omega, by simp, fun i s hi => ?_⟩
    simp only at hi
    have hil : i < L.length := by
      rcases Nat.lt_or_ge i L.length with h | h
      · exact h
      · rw [List.getElem?_eq_none (by rw [zj]; exact h)] at hi; simp at hi
    rw [zn hil] at hi
    obtain rfl : str (L.getD i []) = s := by simpa using hi
    refine ⟨.string (sb (L.getD i [])), ?_, by simp only [VRel]⟩
    rw [Nat.zero_add, ← Array.getElem?_toList]
    have e1 : (cur.toList.take L.length)[i]? = cur.toList[i]? := List.getElem?_take_of_lt hil
    rw [← e1, h4]
    simp [hil]
  · exact (hone _ _ h1).1.trans (hone _ _ h2).1.symm
  · simp only [VRel]
    exact ⟨A, 0, ⟨A, 0, none⟩, L.length, cur, e, (0, 0), by simp, rfl, Nat.le_refl _, Nat.le_refl _, by simp, .inr rfl, hb, by omega⟩
theorem Tryz.fields_f (g : FuncId) (t : List UInt8) (ht1 : t.length ≤ 1048576) (ha : ∀ c ∈ t, c.toNat < 128) (hg : ∀ x : Int, 0 ≤ x → x ≤ 1114111 → PCall Tryz.prog g [.val (.int .i32 x)] (.val (.bool (decide (x = 32))))) (he : ∀ args w, (callFunc g args).run Tryz.prog w = .ok (.enter g args) w) :
    FCall Tryz.prog 192 [str t, .clos (.func g) [] []] (FlatRes (wds t).length 1 (strs (wds t))) := by
  refine ⟨⟨_, Tryz.func192, rfl, rfl⟩, fun w vs hl ht => ?_⟩
  simp only [LRel, VRel] at hl
  obtain ⟨v, rest, rfl, rfl, v2, rest2, rfl, ⟨us, vs, rfl, rfl, rfl⟩, rfl⟩ := hl
  have hp : PredGrows Tryz.prog g #[] (fun x => decide (x = 32)) w := fun W x hx hb => by
    have := (hg x (by omega) (by omega)).2 W [.int .i32 x] (by simp only [LRel, VRel]; exact ⟨_, [], rfl, rfl, rfl⟩) (ht.tr (Below.tr hb _ (fun k h => h.elim)))
    refine this.mono ?_
    rintro e w' ⟨v, rfl, h1, h2⟩
    simp only [VRel] at h2
    subst h2
    refine ⟨?_, h1⟩
    congr 2
    exact decide_eq_decide.2 (by omega)
  refine (Tryz.strings_FieldsFunc_grows g #[] he (fun x => decide (x = 32)) (sb t) w (by rw [sb_size]; omega) hp).mono ?_
  rintro e w' ⟨A, rfl, hA, hown, hbel⟩
  have hfe := fields_eq ha (fun x => decide (x = 32)) (fun _ => rfl)
  rw [hfe, List.length_map, List.map_map] at hown
  rw [hfe, List.length_map]
  obtain ⟨r1, r2, r3⟩ := own_rel ht hbel hA rfl hown
  refine ⟨_, _, _, _, rfl, hbel, r1, r2, fun k hk => by rw [r3 k hk]; exact hA, rfl, fun b blk hb => ?_, 0, 0, _, false, _, rfl, rfl, ?_, ?_, strs_vals _⟩
  · simp only [Heap.one] at hb
    split at hb
    · obtain rfl : (⟨strs (wds t), false⟩ : Blk) = blk := by simpa using hb
      exact noRowL_strs _
    · simp at hb
  · simp only [List.drop_zero, Nat.mul_one]
    exact List.take_of_length_le (by rw [zj]; exact Nat.le_refl _)
  · simp only [zj]; omega
theorem strs_flat (L : List Wd) : (strs L).all flat = true := List.all_eq_true.2 fun x hx => by obtain ⟨y, _, rfl⟩ := List.mem_map.1 hx; rfl
section
variable {P : Program}
theorem PCall.of_bodyN {f : FuncId} {fn : Func} {c : Code} {args : List SV} {T : SV} (hf : P.funcs[f]? = some fn) (hb : fn.body = some c) (hname : (fn.name == "runtime.NumGoroutine") = false) (hn : args.length ≤ fn.ntmps)
    (h : SW P fn.ntmps c (retQ P fn.results.toList (fun r H => Fin (fun r H => ∃ fu, view H fu r = some T) r H ∨ (T = .row 0 false [] ∧ ∃ ex, r = .row 0 ex []))) ⟨ofArgs args, Heap.empty⟩) : PCall P f args T := by
  refine ⟨enters_of hf hb hname, fun w vs hl ht => ?_⟩
  have hl' : LRel (OwnR noj Heap.empty) w noj args vs := LRel.tr (Tr.weaken w (fun k hk => (noOwn_empty k hk).elim)) (fun _ _ h => h) args vs hl
  refine (body_calls hf hb hn (Rel.empty w ht) hl' h).mono ?_
  rintro e w' ⟨r, v, j, H, rfl, h2, h3, h4, h5⟩
  refine ⟨v, rfl, h4.below, ?_⟩
  rcases h5 with ⟨H2, h5, h6, h7, fu, h8⟩ | ⟨rfl, ex, rfl⟩
  · have hsub : ∀ k, OwnR j H2 k → OwnR j H k := by
      rintro k ⟨b, blk, base, g1, g2⟩
      refine ⟨b, blk, base, ?_, g2⟩
      rcases h5.map b with e | e
      · rw [e] at g1; simp at g1
      · rw [← e]; exact g1
    have hlive : Live (fun k => k < w.heap.size) j H2 w' := (h2.sub h5).liveN h7 (fun k hk => by
      rcases h4.own k (hsub k hk) with o | o
      · exact (noOwn_empty k o).elim
      · omega)
    exact view_sound hlive fu r T v h8 (VRel.anyO r v h6 h3)
  · simp only [VRel] at h3 ⊢
    obtain ⟨a, cap, rfl, g1, g2, g3⟩ := h3
    refine ⟨a, cap, rfl, g1, by simp, ?_⟩
    rcases g3 with g3 | ⟨b, g3, _⟩
    · exact .inl g3
    · exact .inr ⟨b, g3, by simp only [CRel]⟩
end
theorem nil_row {O : Nat → Prop} {w : World} {j : JMap} {v : Value} (h : VRel O w j (rst []) v) : ∃ a cap, v = .slice a 0 cap ∧ (a = none → cap = 0) := by
  simp only [rst, strs_nil, List.length_nil, VRel] at h
  obtain ⟨a, cap, rfl, g1, g2, g3⟩ := h
  refine ⟨a, cap, rfl, fun h => ?_⟩
  rcases g3 with ⟨_, _, g, _⟩ | ⟨b, g, _⟩
  · exact g
  · rw [h] at g; cases g
theorem row_nil {O : Nat → Prop} {w : World} {j : JMap} {a : Option Addr} {cap : Nat} (h : a = none → cap = 0) : VRel O w j (rst []) (.slice a 0 cap) := by
  simp only [rst, strs_nil, List.length_nil, VRel]
  refine ⟨a, cap, rfl, Nat.zero_le _, by simp, ?_⟩
  cases a with
  | none => exact .inl (by simp [h rfl])
  | some b => exact .inr ⟨b, rfl, by simp only [CRel]⟩
theorem Tryz.cloneS_nil : PCall Tryz.prog 189 [rst []] (rst []) := by
  refine ⟨⟨_, Tryz.func189, rfl, rfl⟩, fun w vs hl ht => ?_⟩
  simp only [LRel] at hl
  obtain ⟨v, rest, rfl, hv, rfl⟩ := hl
  obtain ⟨a, cap, rfl, h0⟩ := nil_row hv
  cases a with
  | none =>
    refine (Tryz.slices_Clone_string_nil 0 cap w).mono ?_
    rintro e w' ⟨rfl, rfl⟩
    exact ⟨_, rfl, RowKit.Below.refl _ _, row_nil fun _ => rfl⟩
  | some a =>
    refine (Tryz.slices_Clone_string_zero a cap w).mono ?_
    rintro e w' ⟨v', rfl, ⟨_, hown⟩, hne, hbel⟩
    refine ⟨_, rfl, hbel, ?_⟩
    rcases hown with ⟨rfl, _⟩ | ⟨g, c2, cur, rfl, _⟩
    · exact absurd rfl hne
    · exact row_nil fun h => by cases h
theorem Tryz.sortS_nil : PCall Tryz.prog 190 [rst []] (.tup []) := by
  refine ⟨⟨_, Tryz.func190, rfl, rfl⟩, fun w vs hl ht => ?_⟩
  simp only [LRel] at hl
  obtain ⟨v, rest, rfl, hv, rfl⟩ := hl
  obtain ⟨a, cap, rfl, h0⟩ := nil_row hv
  refine (Tryz.slices_Sort_string_none a cap w).mono ?_
  rintro e w' ⟨rfl, rfl⟩
  exact ⟨_, rfl, RowKit.Below.refl _ _, by simp only [VRel, LRel]; exact ⟨[], rfl, rfl⟩⟩
theorem Tryz.compactS_nil : PCall Tryz.prog 191 [rst []] (rst []) := by
  refine ⟨⟨_, Tryz.func191, rfl, rfl⟩, fun w vs hl ht => ?_⟩
  simp only [LRel] at hl
  obtain ⟨v, rest, rfl, hv, rfl⟩ := hl
  obtain ⟨a, cap, rfl, h0⟩ := nil_row hv
  refine (Tryz.slices_Compact_string_empty a cap w).mono ?_
  rintro e w' ⟨rfl, rfl⟩
  exact ⟨_, rfl, RowKit.Below.refl _ _, row_nil h0⟩
theorem rst_nil : rst [] = .row 0 false [] := rfl
theorem Tryz.sortedSet_nil : PCall Tryz.prog 142 [rst []] (rst []) := by
  refine PCall.of_bodyN Tryz.func142 rfl (by kernel_rfl) (by simp [Tryz.ntmps142]) ?_
  refine SW_of_vc Tryz.mixed _ _ _ (by kernel_rfl) ?_
  have w1 := Tryz.cloneS_nil
  have w2 := Tryz.sortS_nil
  have w3 := Tryz.compactS_nil
  rw [rst_nil] at *
  simp (disch := omega) only [go_sem]
  refine w1.callV 0 (z6 zf z7) ?_
  simp (disch := omega) only [go_sem]
  refine w2.callV 0 (z6 zf z7) ?_
  simp (disch := omega) only [go_sem]
  refine w3.callV 0 (z6 zf z7) ?_
  simp (disch := omega) only [go_sem]
  exact .inr ⟨false, rfl⟩
set_option maxHeartbeats 1000000 in
theorem Tryz.cloneS_f (L : List Wd) (hL : L.length ≤ 1048576) (h0 : L ≠ []) : FCall Tryz.prog 189 [rst L] (FlatRes L.length 1 (strs L)) := by
  have hf := strs_flat L
  have hl := zj L
  have hlp : 0 < L.length := List.length_pos_iff.2 h0
  have ht : (strs L).take L.length = strs L := List.take_of_length_le (by omega)
  refine FCall.of_body Tryz.func189 rfl (by kernel_rfl) (by simp [Tryz.ntmps189]) ?_
  refine SW_of_vc Tryz.mixed _ _ _ (by kernel_rfl) ?_
  simp (disch := omega) only [go_sem, rst, hf, hl, ht]
  exact fin_strs rfl (by first | rfl | (simp (disch := omega) only [hx_map, hp_map, zl, zm, zk, xmap_nil, if_pos, if_neg, ↓reduceIte]; try rfl))
set_option maxHeartbeats 4000000 in
theorem Tryz.sortedSet_f (L : List Wd) (hL : L.length ≤ 1048576) (h0 : L ≠ []) : FCall Tryz.prog 142 [rst L] (FlatRes (sset L).length 1 (strs (sset L))) := by
  have wc := (Tryz.cloneS_f L hL h0).one
  have hl := msort_length L
  have hcs := compact_sset L
  have hm0 : msort L ≠ [] := fun e => h0 (by rw [e] at hl; exact List.length_eq_zero_iff.1 hl.symm)
  refine FCall.of_body Tryz.func142 rfl (by kernel_rfl) (by simp [Tryz.ntmps142]) ?_
  refine SW_of_vc Tryz.mixed _ _ _ (by kernel_rfl) ?_
  simp (disch := omega) only [go_sem, rst]
  refine wc.callOne (strs_vals _) 0 (z6 zf z7) ?_
  simp (disch := omega) only [go_sem, rst]
  refine (Tryz.sort_ok _ _ _ _ false L h0 hL (by first | rfl | (simp (disch := omega) only [hx_map, hp_map, zl, zm, zk, xmap_nil, if_pos, if_neg, ↓reduceIte]; try rfl))).callX ?_
  rintro r H' ⟨rfl, rfl⟩
  have wk := Tryz.compact_ok (hp [(0, ⟨strs (msort L), false⟩)] 1) 0 L.length false false (msort L) hm0 (by omega) rfl
  rw [hl, hcs] at wk
  simp (disch := omega) only [go_sem, rst]
  refine wk.callX ?_
  rintro r H' ⟨rfl, rfl⟩
  simp (disch := omega) only [go_sem, rst]
  have hcp : cpc (msort L) = sset L ++ List.replicate (L.length - (sset L).length) [] := by rw [cpc, hl, hcs]
  refine Fin.own (blk := ⟨strs (cpc (msort L)), false⟩) rfl (isVal_noRow (strs_vals _)) ⟨0, 0, L.length, false, ⟨strs (cpc (msort L)), false⟩, rfl, by simp, ?_, ?_, strs_vals _⟩
  · rw [List.drop_zero, Nat.mul_one, hcp, ← strs_append, List.take_left' (zj _)]
  · simp only [zj]; rw [hcp]; simp
set_option maxHeartbeats 2000000 in
theorem Tryz.words1_ok (x : Int) : PCall Tryz.prog 193 [.val (.int .i32 x)] (.val (.bool (decide (x = 32)))) := by
  refine FCall.pcall (R := fun r _ => r = .val (.bool (decide (x = 32)))) ?_ 0 (by rintro r H rfl; exact zg)
  refine FCall.of_body Tryz.func193 rfl (by kernel_rfl) (by simp [Tryz.ntmps193]) ?_
  refine SW_of_vc Tryz.mixed _ _ _ (by kernel_rfl) ?_
  have e : decide (x = 32) = (x == 32) := by rw [Bool.eq_iff_iff]; simp
  rw [e]
  simp (disch := omega) only [go_sem]
  exact Fin.val rfl
set_option maxHeartbeats 2000000 in
theorem Tryz.words_f (t : List UInt8) (ht : t.length ≤ 1048576) (ha : ∀ c ∈ t, c.toNat < 128) : FCall Tryz.prog 192 [str t, .clos (.func 193) [] []] (FlatRes (wds t).length 1 (strs (wds t))) :=
  Tryz.fields_f 193 t ht ha (fun x _ _ => Tryz.words1_ok x) (fun args w => by kernel_rfl)
set_option maxHeartbeats 2000000 in
theorem Tryz.implWords_ok (t : List UInt8) (ht : t.length ≤ 1048576) (ha : ∀ c ∈ t, c.toNat < 128) : PCall Tryz.prog 143 [str t] (rst (wds t)) := by
  refine FCall.pcall (R := FlatRes (wds t).length 1 (strs (wds t))) ?_ 1 (fun _ _ h => flat_viewS h)
  have w := (Tryz.words_f t ht ha).one
  generalize wds t = L at *
  refine FCall.of_body Tryz.func143 rfl (by kernel_rfl) (by simp [Tryz.ntmps143]) ?_
  refine SW_of_vc Tryz.mixed _ _ _ (by kernel_rfl) ?_
  simp (disch := omega) only [go_sem]
  refine w.callOne (strs_vals _) 1 (z6 zd (z6 (view_clos z7) z7)) ?_
  simp (disch := omega) only [go_sem]
  exact fin_strs rfl (by first | rfl | (simp (disch := omega) only [hx_map, hp_map, zl, zm, zk, xmap_nil, if_pos, if_neg, ↓reduceIte]; try rfl))
theorem nrm_asc {s : List UInt8} : ∀ c ∈ nrm s, c.toNat < 128 := fun c hc => by
  rcases nrm_mem hc with h | rfl
  · rcases Bool.or_eq_true_iff.1 h with g | g
    · have := rg_tt g; omega
    · have := rg_tt g; omega
  · decide
end Go.Sh

/-
  Growing slices of any kind that are nil as long as they are empty.
-/
namespace Go.Sh
open Go Go.Proofs

def nlG (z b n : Nat) : SV := if n = 0 then .val (.slice none 0 0) else .own b 0 n n z false
theorem nlG_f {z b n : Nat} (h : n ≠ 0) : nlG z b n = .own b 0 n n z false := if_neg h
theorem nlG_t {z b n : Nat} (h : n = 0) : nlG z b n = .val (.slice none 0 0) := if_pos h
theorem nlG_s {z b n : Nat} : nlG z b (n + 1) = .own b 0 (n + 1) (n + 1) z false := if_neg (by omega)
theorem nlG_0 {z b : Nat} : nlG z b 0 = .val (.slice none 0 0) := if_pos rfl
end Go.Sh

/-
  Normal forms: spaces, the program's way, both normal forms.
-/
namespace Go.Sh
open Go Go.Proofs

theorem csp_sp (p : List UInt8 × Bool) : csp p 32 = (p.1, true) := by rw [csp, if_pos rfl]
theorem csp_two {p : List UInt8 × Bool} {c : UInt8} (h : c ≠ 32) (h1 : p.1 ≠ []) (h2 : p.2 = true) : (csp p c).1 = p.1 ++ [32] ++ [c] := by rw [csp, if_neg h, if_pos ⟨h1, h2⟩]; simp
theorem csp_one {p : List UInt8 × Bool} {c : UInt8} (h : c ≠ 32) (h1 : ¬ (p.1 ≠ [] ∧ p.2 = true)) : (csp p c).1 = p.1 ++ [c] := by rw [csp, if_neg h, if_neg h1]
set_option maxHeartbeats 8000000 in
theorem Tryz.specClp_ok (s : List UInt8) (hs : s.length ≤ 1048576) : PCall Tryz.prog 156 [str s] (str (clp s)) := by
  refine FCall.pcall (R := fun r _ => r = str (clp s)) ?_ 0 (by rintro r H rfl; exact zd)
  refine FCall.of_body Tryz.func156 rfl (by kernel_rfl) (by simp [Tryz.ntmps156]) ?_
  refine SW_of_vc Tryz.mixed _ _ _ (by kernel_rfl) ?_
  simp (disch := omega) only [go_sem]
  refine LoopW.loop (fun p : Nat × Nat × Heap => ⟨ofL [(0, str s), (3, .own p.2.1 0 (clp2 (s.take p.1)).1.length (clp2 (s.take p.1)).1.length 1 false), (4, .val (.int .i64 p.1))], p.2.2⟩)
    (fun p => p.1 ≤ s.length ∧ p.2.1 < p.2.2.nb ∧ p.2.2.map p.2.1 = some ⟨u8c (clp2 (s.take p.1)).1, false⟩) (fun p => s.length - p.1) (0, 0, (hp [] 0).push ⟨[], false⟩) ⟨by simp, by show 0 < ((hp [] 0).push _).nb; rw [za]; show 0 < 0 + 1; omega, by show ((hp [] 0).push _).map 0 = _; rw [zb]; rfl⟩
    (Wk.of (by simp only [go_sem, ↓List.forall_mem_cons, List.not_mem_nil, false_implies, implies_true, and_true, true_and, and_self, ri_eq, Int.natCast_add, Int.cast_ofNat_Int, List.take_zero, clp2, List.foldl_nil, List.length_nil]; try simp) rfl) ?_
  rintro ⟨i, ob, H⟩ ⟨hi, hob, hm⟩
  simp only at hi hob hm
  obtain ⟨g1, g2, g3⟩ := clp2_inv (l := s) i hi
  refine SW_of_vc Tryz.mixed _ _ _ (by kernel_rfl) ?_
  by_cases hlt : i < s.length
  · have hix := sb_ix hlt
    have hst := clp2_at hlt
    have hb := u8arg (s.getD i 0)
    have hsp : ∀ m, i = m + 1 → (clp2 (s.take i)).2 = (s.getD m 0 == 32) := fun m e => by subst e; exact clp2_sp (by omega)
    generalize hp0 : clp2 (s.take i) = p at *
    generalize hc0 : s.getD i 0 = c at *
    have hPs : (u8c p.1).length = p.1.length := u8c_length _
    have hPt : (u8c p.1).take p.1.length = u8c p.1 := List.take_of_length_le (by omega)
    have hsn := u8c_snoc p.1 c
    by_cases h32 : c = 32
    · have e1 : ((c.toNat : Int) != 32) = false := by rw [bne, show ((c.toNat : Int) == 32) = true from u8_eq h32]; rfl
      rw [h32, csp_sp] at hst
      simp (disch := omega) only [go_sem, hix, e1]
      refine ⟨(i + 1, ob, H), ⟨hlt, hob, by simp only; rw [hst]; exact hm⟩, by simp only; omega, Wk.of (by simp only [go_sem, ↓List.forall_mem_cons, List.not_mem_nil, false_implies, implies_true, and_true, true_and, and_self, ri_eq, Int.natCast_add, Int.cast_ofNat_Int, hst]; try simp) rfl⟩
    · have e1 : ((c.toNat : Int) != 32) = true := by rw [bne, show ((c.toNat : Int) == 32) = false from u8_ne h32]; rfl
      by_cases h0 : p.1 = []
      · have hst1 := csp_one (p := p) h32 (by simp [h0])
        rw [← hst] at hst1
        have hl1 : (clp2 (s.take (i + 1))).1.length = p.1.length + 1 := by rw [hst1]; simp
        have hz : p.1.length = 0 := by rw [h0]; rfl
        simp (disch := omega) only [go_sem, hix, e1, hm, hPs, hPt, hsn, ze, zc, zb, za]
        refine ⟨(i + 1, H.nb + 1, _), ⟨hlt, ?_, ?_⟩, by simp only; omega, Wk.of (by simp only [go_sem, ↓List.forall_mem_cons, List.not_mem_nil, false_implies, implies_true, and_true, true_and, and_self, ri_eq, Int.natCast_add, Int.cast_ofNat_Int, hl1]; try simp) rfl⟩
        · simp only [zc, za]; omega
        · simp only [hst1]
          simp (disch := omega) only [ze, zb, zc, za, if_pos, if_neg, ↓reduceIte]
      · have hz : 0 < p.1.length := List.length_pos_iff.2 h0
        obtain ⟨m, hm1⟩ : ∃ m, i = m + 1 := ⟨i - 1, by split at g3 <;> omega⟩
        have hsp := hsp m hm1
        have hix2 := sb_ix (s := s) (i := m) (by omega)
        have hcast : (i : Int) - 1 = (m : Int) := by omega
        cases h2 : p.2 with
        | true =>
          have hs32 : s.getD m 0 = 32 := by rw [h2] at hsp; exact beq_iff_eq.1 hsp.symm
          have e2 : (((s.getD m 0).toNat : Int) == 32) = true := u8_eq hs32
          have hst1 := csp_two (p := p) h32 h0 h2
          rw [← hst] at hst1
          have hl1 : (clp2 (s.take (i + 1))).1.length = p.1.length + 1 + 1 := by rw [hst1]; simp
          have h32s : u8c p.1 ++ [.val (.int .u8 32)] = u8c (p.1 ++ [32]) := u8c_snoc p.1 32
          have hPs2 : (u8c (p.1 ++ [32])).length = p.1.length + 1 := by simp [u8c_length]
          have hPt2 : (u8c (p.1 ++ [32])).take (p.1.length + 1) = u8c (p.1 ++ [32]) := List.take_of_length_le (by omega)
          have hsn2 := u8c_snoc (p.1 ++ [32]) c
          simp (disch := omega) only [go_sem, hix, e1, hcast, hix2, e2, hm, hPs, hPt, h32s, hPs2, hPt2, hsn2, ze, zc, zb, za]
          refine ⟨(i + 1, H.nb + 1 + 1 + 1, _), ⟨hlt, ?_, ?_⟩, by simp only; omega, Wk.of (by simp only [go_sem, ↓List.forall_mem_cons, List.not_mem_nil, false_implies, implies_true, and_true, true_and, and_self, ri_eq, Int.natCast_add, Int.cast_ofNat_Int, hl1]; try simp) rfl⟩
          · simp only [zc, za]; omega
          · simp only [hst1]
            simp (disch := omega) only [ze, zb, zc, za, if_pos, if_neg, ↓reduceIte]
        | false =>
          have hs32 : s.getD m 0 ≠ 32 := by rw [h2] at hsp; exact beq_eq_false_iff_ne.1 hsp.symm
          have e2 : (((s.getD m 0).toNat : Int) == 32) = false := u8_ne hs32
          have hst1 := csp_one (p := p) h32 (by simp [h2])
          rw [← hst] at hst1
          have hl1 : (clp2 (s.take (i + 1))).1.length = p.1.length + 1 := by rw [hst1]; simp
          simp (disch := omega) only [go_sem, hix, e1, hcast, hix2, e2, hm, hPs, hPt, hsn, ze, zc, zb, za]
          refine ⟨(i + 1, H.nb + 1, _), ⟨hlt, ?_, ?_⟩, by simp only; omega, Wk.of (by simp only [go_sem, ↓List.forall_mem_cons, List.not_mem_nil, false_implies, implies_true, and_true, true_and, and_self, ri_eq, Int.natCast_add, Int.cast_ofNat_Int, hl1]; try simp) rfl⟩
          · simp only [zc, za]; omega
          · simp only [hst1]
            simp (disch := omega) only [ze, zb, zc, za, if_pos, if_neg, ↓reduceIte]
  · obtain rfl : i = s.length := by omega
    rw [List.take_length] at hm
    have hPs := u8c_length (clp2 s).1
    have hPt : (u8c (clp2 s).1).take (clp2 s).1.length = u8c (clp2 s).1 := List.take_of_length_le (by omega)
    simp (disch := omega) only [go_sem, List.take_length, hm, hPs, hPt]
    exact Fin.val rfl
def mpd (g : UInt8 → UInt8) (s : List UInt8) (i : Nat) : List UInt8 := (s.take i).map g ++ s.drop i
theorem mpd_length (g : UInt8 → UInt8) (s : List UInt8) (i : Nat) : (mpd g s i).length = s.length := by simp [mpd]; omega
theorem mpd_at {g : UInt8 → UInt8} {s : List UInt8} {i : Nat} (h : i < s.length) : (mpd g s i).getD i 0 = s.getD i 0 := by
  simp [mpd, List.getD, List.getElem?_append, (by omega : min i s.length = i)]
theorem mpd_set {g : UInt8 → UInt8} {s : List UInt8} {i : Nat} (h : i < s.length) : (mpd g s i).set i (g (s.getD i 0)) = mpd g s (i + 1) := by
  have hl : ((s.take i).map g).length = i := by rw [List.length_map, List.length_take]; omega
  rw [mpd, List.drop_eq_getElem_cons h, List.set_append_right _ _ (by omega), hl, Nat.sub_self, List.set_cons_zero, mpd, take_at 0 h, List.map_append, List.append_assoc]
  rfl
theorem mpd_0 (g : UInt8 → UInt8) (s : List UInt8) : mpd g s 0 = s := by simp [mpd]
theorem mpd_n (g : UInt8 → UInt8) (s : List UInt8) : mpd g s s.length = s.map g := by simp [mpd]
set_option maxHeartbeats 4000000 in
theorem Tryz.mapped_ok (f : FuncId) (g : UInt8 → UInt8) (s : List UInt8) (hs : s.length ≤ 1048576) (hf : ∀ c : UInt8, PCall Tryz.prog f [.val (.int .u8 c.toNat)] (.val (.int .u8 (g c).toNat))) : PCall Tryz.prog 220 [str s, .clos (.func f) [] []] (str (s.map g)) := by
  refine FCall.pcall (R := fun r _ => r = str (s.map g)) ?_ 0 (by rintro r H rfl; exact zd)
  refine FCall.of_body Tryz.func220 rfl (by kernel_rfl) (by simp [Tryz.ntmps220]) ?_
  refine SW_of_vc Tryz.mixed _ _ _ (by kernel_rfl) ?_
  simp (disch := omega) only [go_sem]
  refine LoopW.loop (fun p : Nat × Heap => ⟨ofL [(1, .clos (.func f) [] []), (5, .own 0 0 s.length s.length 1 false), (10, .own 0 0 s.length s.length 1 false), (11, .val (.int .i64 s.length)), (12, .val (.int .i64 p.1))], p.2⟩)
    (fun p => p.1 ≤ s.length ∧ p.2.map 0 = some ⟨u8c (mpd g s p.1), false⟩) (fun p => s.length - p.1) (0, (hp [] 0).push ⟨u8c s, false⟩) ⟨by simp, by show ((hp [] 0).push _).map 0 = _; rw [zb, mpd_0]; rfl⟩
    (Wk.of (by simp only [go_sem, ↓List.forall_mem_cons, List.not_mem_nil, false_implies, implies_true, and_true, true_and, and_self, ri_eq, Int.natCast_add, Int.cast_ofNat_Int]; try simp) rfl) ?_
  rintro ⟨i, H⟩ ⟨hi, hm⟩
  simp only at hi hm
  have hl : (u8c (mpd g s i)).length = s.length := by rw [u8c_length, mpd_length]
  refine SW_of_vc Tryz.mixed _ _ _ (by kernel_rfl) ?_
  by_cases hlt : i < s.length
  · have hat : (u8c (mpd g s i))[i]? = some (.val (.int .u8 ((s.getD i 0).toNat : Int))) := by rw [u8c_at (by rw [mpd_length]; exact hlt), mpd_at hlt]
    have hst : (u8c (mpd g s i)).set i (.val (.int .u8 ((g (s.getD i 0)).toNat : Int))) = u8c (mpd g s (i + 1)) := by rw [u8c_set, mpd_set hlt]
    have hb := u8arg (s.getD i 0)
    simp (disch := omega) only [go_sem, hm, hl, hat]
    refine (hf _).callV 0 (z6 (z8) z7) ?_
    simp (disch := omega) only [go_sem, hm, hl, hat, hst]
    refine ⟨(i + 1, _), ⟨hlt, ?_⟩, by simp only; omega, Wk.of (by simp only [go_sem, ↓List.forall_mem_cons, List.not_mem_nil, false_implies, implies_true, and_true, true_and, and_self, ri_eq, Int.natCast_add, Int.cast_ofNat_Int]; try simp) rfl⟩
    simp only [ze, ↓reduceIte]
  · obtain rfl : i = s.length := by omega
    have hPt : (u8c (mpd g s s.length)).take s.length = u8c (mpd g s s.length) := List.take_of_length_le (by omega)
    simp (disch := omega) only [go_sem, hm, hl, hPt]
    exact Fin.val (by rw [mpd_n])
set_option maxHeartbeats 2000000 in
theorem Tryz.fold1_ok (c : UInt8) : PCall Tryz.prog 224 [.val (.int .u8 c.toNat)] (.val (.int .u8 (fc c).toNat)) := by
  refine FCall.pcall (R := fun r _ => r = .val (.int .u8 (fc c).toNat)) ?_ 0 (by rintro r H rfl; exact z8)
  refine FCall.of_body Tryz.func224 rfl (by kernel_rfl) (by simp [Tryz.ntmps224]) ?_
  refine SW_of_vc Tryz.mixed _ _ _ (by kernel_rfl) ?_
  have hb := u8arg c
  cases hc : isCp c with
  | true =>
    have ha := u8_add hc
    have hr := cp_t hc
    simp (disch := omega) only [go_sem, ha]
    exact Fin.val rfl
  | false =>
    rw [fc_no hc]
    rcases cp_f hc with hr | hr <;> (simp (disch := omega) only [go_sem]; exact Fin.val rfl)
theorem Tryz.implFold_ok (s : List UInt8) (hs : s.length ≤ 1048576) : PCall Tryz.prog 184 [str s] (str (s.map fc)) := by
  refine FCall.pcall (R := fun r _ => r = str (s.map fc)) ?_ 0 (by rintro r H rfl; exact zd)
  have w := Tryz.mapped_ok 224 fc s hs Tryz.fold1_ok
  refine FCall.of_body Tryz.func184 rfl (by kernel_rfl) (by simp [Tryz.ntmps184]) ?_
  refine SW_of_vc Tryz.mixed _ _ _ (by kernel_rfl) ?_
  simp (disch := omega) only [go_sem]
  refine w.callV 1 (z6 zd (z6 (view_clos z7) z7)) ?_
  simp (disch := omega) only [go_sem]
  exact Fin.val rfl
theorem Tryz.strip1_ok (c : UInt8) : PCall Tryz.prog 222 [.val (.int .u8 c.toNat)] (.val (.int .u8 (fw c).toNat)) := by
  refine FCall.pcall (R := fun r _ => r = .val (.int .u8 (fw c).toNat)) ?_ 0 (by rintro r H rfl; exact z8)
  have w := Tryz.isWord_ok c
  refine FCall.of_body Tryz.func222 rfl (by kernel_rfl) (by simp [Tryz.ntmps222]) ?_
  refine SW_of_vc Tryz.mixed _ _ _ (by kernel_rfl) ?_
  cases hw : isWd c with
  | true =>
    rw [hw] at w
    rw [wd_t hw]
    simp (disch := omega) only [go_sem]
    refine w.callV 0 (z6 (z8) z7) ?_
    simp (disch := omega) only [go_sem]
    exact Fin.val rfl
  | false =>
    rw [hw] at w
    rw [fw, if_neg (by simp [hw])]
    simp (disch := omega) only [go_sem]
    refine w.callV 0 (z6 (z8) z7) ?_
    simp (disch := omega) only [go_sem]
    exact Fin.val rfl
theorem Tryz.implStrip_ok (s : List UInt8) (hs : s.length ≤ 1048576) : PCall Tryz.prog 183 [str s] (str (stp s)) := by
  refine FCall.pcall (R := fun r _ => r = str (stp s)) ?_ 0 (by rintro r H rfl; exact zd)
  have w1 := Tryz.replaceAll_ok s 39 hs
  rw [replAll1] at w1
  have hl : (s.filter fun x => x != 39).length ≤ s.length := List.length_filter_le _ _
  have w2 := Tryz.mapped_ok 222 fw (s.filter fun x => x != 39) (by omega) Tryz.strip1_ok
  refine FCall.of_body Tryz.func183 rfl (by kernel_rfl) (by simp [Tryz.ntmps183]) ?_
  refine SW_of_vc Tryz.mixed _ _ _ (by kernel_rfl) ?_
  rw [stp]
  generalize (s.filter fun x => x != 39) = t at *
  simp (disch := omega) only [go_sem]
  refine w1.callV 0 (z6 zd (z6 zd (z6 zd z7))) ?_
  simp (disch := omega) only [go_sem]
  refine w2.callV 1 (z6 zd (z6 (view_clos z7) z7)) ?_
  simp (disch := omega) only [go_sem]
  exact Fin.val rfl
theorem getLast_at {l : List UInt8} {m : Nat} (h : l.length = m + 1) : l.getLast? = some (l.getD m 0) := by
  rw [List.getLast?_eq_getElem?, h]; simp [List.getD, (by omega : m < l.length)]
set_option maxHeartbeats 8000000 in
theorem Tryz.implClp_ok (s : List UInt8) (hs : s.length ≤ 1048576) : PCall Tryz.prog 182 [str s] (str (clp s)) := by
  refine FCall.pcall (R := fun r _ => r = str (clp s)) ?_ 0 (by rintro r H rfl; exact zd)
  refine FCall.of_body Tryz.func182 rfl (by kernel_rfl) (by simp [Tryz.ntmps182]) ?_
  refine SW_of_vc Tryz.mixed _ _ _ (by kernel_rfl) ?_
  simp (disch := omega) only [go_sem]
  refine LoopW.loop (fun p : Nat × Nat × Heap => ⟨ofL [(0, str s), (3, nlG 1 p.2.1 (clo (clp2 (s.take p.1))).length), (6, .val (.int .i64 s.length)), (7, .val (.int .i64 p.1))], p.2.2⟩)
    (fun p => p.1 ≤ s.length ∧ ((clo (clp2 (s.take p.1))).length ≠ 0 → p.2.1 < p.2.2.nb ∧ p.2.2.map p.2.1 = some ⟨u8c (clo (clp2 (s.take p.1))), false⟩)) (fun p => s.length - p.1) (0, 0, hp [] 0) ⟨by simp, fun h => absurd rfl h⟩
    (Wk.of (by simp only [go_sem, ↓List.forall_mem_cons, List.not_mem_nil, false_implies, implies_true, and_true, true_and, and_self, ri_eq, Int.natCast_add, Int.cast_ofNat_Int, List.take_zero, clp2, List.foldl_nil, clo, List.length_nil, nlG_0]; try simp) rfl) ?_
  rintro ⟨i, ob, H⟩ ⟨hi, hml⟩
  simp only at hi hml
  obtain ⟨g1, g2, g3⟩ := clp2_inv (l := s) i hi
  have hle : (clo (clp2 (s.take i))).length ≤ i := by
    rw [clo]; split at g3 <;> split <;> simp_all <;> omega
  refine SW_of_vc Tryz.mixed _ _ _ (by kernel_rfl) ?_
  by_cases hlt : i < s.length
  · have hix := sb_ix hlt
    have hst := clo_csp (c := s.getD i 0) g1
    rw [← clp2_at hlt] at hst
    have hb := u8arg (s.getD i 0)
    generalize hq0 : clo (clp2 (s.take (i + 1))) = o2 at *
    generalize clo (clp2 (s.take i)) = o at *
    generalize s.getD i 0 = c at *
    have hPs : (u8c o).length = o.length := u8c_length _
    have hPt : (u8c o).take o.length = u8c o := List.take_of_length_le (by omega)
    have hsn := u8c_snoc o c
    have hone : [SV.val (.int .u8 (c.toNat : Int))] = u8c [c] := rfl
    by_cases h0 : o.length = 0
    · have e0 := nlG_t (z := 1) (b := ob) h0
      have ho : o = [] := List.length_eq_zero_iff.1 h0
      by_cases h32 : c = 32
      · have e1 : ((c.toNat : Int) != 32) = false := by rw [bne, show ((c.toNat : Int) == 32) = true from u8_eq h32]; rfl
        rw [if_neg (by simp [h32, ho])] at hst
        have hl2 : o2.length = 0 := by rw [← hst, h0]
        have e2 := nlG_t (z := 1) (b := ob) hl2
        simp (disch := omega) only [go_sem, hix, e0, e1]
        exact ⟨(i + 1, ob, H), ⟨hlt, by simp only [hq0]; intro h; exact absurd hl2 h⟩, by simp only; omega, Wk.of (by simp only [go_sem, ↓List.forall_mem_cons, List.not_mem_nil, false_implies, implies_true, and_true, true_and, and_self, ri_eq, Int.natCast_add, Int.cast_ofNat_Int, hq0, e2]; try simp) rfl⟩
      · have e1 : ((c.toNat : Int) != 32) = true := by rw [bne, show ((c.toNat : Int) == 32) = false from u8_ne h32]; rfl
        rw [if_pos (.inl h32)] at hst
        have hl2 : o2.length = 1 := by rw [← hst, ho]; rfl
        have e2 := nlG_f (z := 1) (b := H.nb + 1) (n := o2.length) (by omega)
        rw [hl2] at e2
        have h2 : o2 = [c] := by rw [← hst, ho]; rfl
        simp (disch := omega) only [go_sem, hix, e0, e1, ze, zc, zb, za]
        refine ⟨(i + 1, H.nb + 1, _), ⟨hlt, fun _ => ⟨?_, ?_⟩⟩, by simp only; omega, Wk.of (by simp only [go_sem, ↓List.forall_mem_cons, List.not_mem_nil, false_implies, implies_true, and_true, true_and, and_self, ri_eq, Int.natCast_add, Int.cast_ofNat_Int, hq0, hl2, e2]; try simp) rfl⟩
        · simp only [zc, za]; omega
        · simp only [hq0, h2]
          simp (disch := omega) only [ze, zb, zc, za, if_pos, if_neg, ↓reduceIte]
          rfl
    · have e0 := nlG_f (z := 1) (b := ob) h0
      obtain ⟨m1, m2⟩ := hml h0
      obtain ⟨m, hm⟩ : ∃ m, o.length = m + 1 := ⟨o.length - 1, by omega⟩
      have hgl := getLast_at hm
      have hcast : (o.length : Int) - 1 = (m : Int) := by omega
      have hat : (u8c o)[m]? = some (.val (.int .u8 ((o.getD m 0).toNat : Int))) := u8c_at (by omega)
      have h0' : o ≠ [] := fun e => h0 (by rw [e]; rfl)
      by_cases h32 : c = 32
      · have e1 : ((c.toNat : Int) != 32) = false := by rw [bne, show ((c.toNat : Int) == 32) = true from u8_eq h32]; rfl
        by_cases hla : o.getD m 0 = 32
        · have e3 : (((o.getD m 0).toNat : Int) != 32) = false := by rw [bne, show (((o.getD m 0).toNat : Int) == 32) = true from u8_eq hla]; rfl
          rw [if_neg (by rintro (h | ⟨_, h⟩); exact h h32; exact h (by rw [hgl, hla]))] at hst
          subst hst
          simp (disch := omega) only [go_sem, hix, e0, e1, hcast, m2, hPs, hat, e3]
          exact ⟨(i + 1, ob, H), ⟨hlt, by simp only [hq0]; exact hml⟩, by simp only; omega, Wk.of (by simp only [go_sem, ↓List.forall_mem_cons, List.not_mem_nil, false_implies, implies_true, and_true, true_and, and_self, ri_eq, Int.natCast_add, Int.cast_ofNat_Int, hq0, e0]; try simp) rfl⟩
        · have e3 : (((o.getD m 0).toNat : Int) != 32) = true := by rw [bne, show (((o.getD m 0).toNat : Int) == 32) = false from u8_ne hla]; rfl
          rw [if_pos (.inr ⟨h0', fun h => hla (by rw [hgl] at h; exact Option.some.inj h)⟩)] at hst
          have hl2 : o2.length = o.length + 1 := by rw [← hst]; simp
          have e2 := nlG_f (z := 1) (b := H.nb + 1) (n := o2.length) (by omega)
          rw [hl2] at e2
          simp (disch := omega) only [go_sem, hix, e0, e1, hcast, m2, hPs, hPt, hat, e3, hsn, ze, zc, zb, za]
          refine ⟨(i + 1, H.nb + 1, _), ⟨hlt, fun _ => ⟨?_, ?_⟩⟩, by simp only; omega, Wk.of (by simp only [go_sem, ↓List.forall_mem_cons, List.not_mem_nil, false_implies, implies_true, and_true, true_and, and_self, ri_eq, Int.natCast_add, Int.cast_ofNat_Int, hq0, hl2, e2]; try simp) rfl⟩
          · simp only [zc, za]; omega
          · simp only [hq0, ← hst]
            simp (disch := omega) only [ze, zb, zc, za, if_pos, if_neg, ↓reduceIte]
      · have e1 : ((c.toNat : Int) != 32) = true := by rw [bne, show ((c.toNat : Int) == 32) = false from u8_ne h32]; rfl
        rw [if_pos (.inl h32)] at hst
        have hl2 : o2.length = o.length + 1 := by rw [← hst]; simp
        have e2 := nlG_f (z := 1) (b := H.nb + 1) (n := o2.length) (by omega)
        rw [hl2] at e2
        simp (disch := omega) only [go_sem, hix, e0, e1, m2, hPs, hPt, hsn, ze, zc, zb, za]
        refine ⟨(i + 1, H.nb + 1, _), ⟨hlt, fun _ => ⟨?_, ?_⟩⟩, by simp only; omega, Wk.of (by simp only [go_sem, ↓List.forall_mem_cons, List.not_mem_nil, false_implies, implies_true, and_true, true_and, and_self, ri_eq, Int.natCast_add, Int.cast_ofNat_Int, hq0, hl2, e2]; try simp) rfl⟩
        · simp only [zc, za]; omega
        · simp only [hq0, ← hst]
          simp (disch := omega) only [ze, zb, zc, za, if_pos, if_neg, ↓reduceIte]
  · obtain rfl : i = s.length := by omega
    rw [List.take_length] at hml g1
    have htr := clo_trim g1
    have wt := Tryz.trimSuffix_ok (clo (clp2 s)) [32] (by rw [List.take_length] at hle; omega)
    rw [htr] at wt
    generalize hoo : clo (clp2 s) = o at *
    have hcl : clp s = (clp2 s).1 := rfl
    rw [← hcl] at wt
    have hPs : (u8c o).length = o.length := u8c_length _
    have hPt : (u8c o).take o.length = u8c o := List.take_of_length_le (by omega)
    by_cases h0 : o.length = 0
    · have e0 := nlG_t (z := 1) (b := ob) h0
      have ho : o = [] := List.length_eq_zero_iff.1 h0
      rw [ho] at wt
      simp (disch := omega) only [go_sem, List.take_length, hoo, e0]
      refine wt.callV 0 (z6 zd (z6 zd z7)) ?_
      simp (disch := omega) only [go_sem]
      exact Fin.val rfl
    · have e0 := nlG_f (z := 1) (b := ob) h0
      obtain ⟨m1, m2⟩ := hml h0
      simp (disch := omega) only [go_sem, List.take_length, hoo, e0, m2, hPs, hPt]
      refine wt.callV 0 (z6 zd (z6 zd z7)) ?_
      simp (disch := omega) only [go_sem]
      exact Fin.val rfl
theorem Tryz.specNrm_ok (s : List UInt8) (hs : s.length ≤ 1048576) : PCall Tryz.prog 114 [str s] (str (nrm s)) := by
  refine FCall.pcall (R := fun r _ => r = str (nrm s)) ?_ 0 (by rintro r H rfl; exact zd)
  have w1 := Tryz.specFold_ok s hs
  have h1 := stp_length (s.map fc)
  rw [List.length_map] at h1
  have w2 := Tryz.specStrip_ok (s.map fc) (by rw [List.length_map]; exact hs)
  have w3 := Tryz.specClp_ok (stp (s.map fc)) (by omega)
  refine FCall.of_body Tryz.func114 rfl (by kernel_rfl) (by simp [Tryz.ntmps114]) ?_
  refine SW_of_vc Tryz.mixed _ _ _ (by kernel_rfl) ?_
  simp (disch := omega) only [go_sem]
  refine w1.callV 0 (z6 zd z7) ?_
  simp (disch := omega) only [go_sem]
  refine w2.callV 0 (z6 zd z7) ?_
  simp (disch := omega) only [go_sem]
  refine w3.callV 0 (z6 zd z7) ?_
  simp (disch := omega) only [go_sem]
  exact Fin.val rfl
theorem Tryz.implNrm_ok (s : List UInt8) (hs : s.length ≤ 1048576) : PCall Tryz.prog 139 [str s] (str (nrm s)) := by
  refine FCall.pcall (R := fun r _ => r = str (nrm s)) ?_ 0 (by rintro r H rfl; exact zd)
  have w1 := Tryz.implFold_ok s hs
  have h1 := stp_length (s.map fc)
  rw [List.length_map] at h1
  have w2 := Tryz.implStrip_ok (s.map fc) (by rw [List.length_map]; exact hs)
  have w3 := Tryz.implClp_ok (stp (s.map fc)) (by omega)
  refine FCall.of_body Tryz.func139 rfl (by kernel_rfl) (by simp [Tryz.ntmps139]) ?_
  refine SW_of_vc Tryz.mixed _ _ _ (by kernel_rfl) ?_
  simp (disch := omega) only [go_sem]
  refine w1.callV 0 (z6 zd z7) ?_
  simp (disch := omega) only [go_sem]
  refine w2.callV 0 (z6 zd z7) ?_
  simp (disch := omega) only [go_sem]
  refine w3.callV 0 (z6 zd z7) ?_
  simp (disch := omega) only [go_sem]
  exact Fin.val rfl
end Go.Sh

/-
  Sets of words compared: contracts.
-/
namespace Go.Sh
open Go Go.Proofs

theorem ts_w {L : List Wd} (h : TS L) {k : Nat} (hk : k < L.length) : isTk (L.getD k []) = true := h.2 _ (by simp [List.getD, hk])
theorem ts_lt {L : List Wd} (h : TS L) {k : Nat} (hk : k + 1 < L.length) : L.getD k [] < L.getD (k + 1) [] := by
  have := List.pairwise_iff_getElem.1 h.1 k (k + 1) (by omega) hk (by omega)
  simpa [List.getD, hk, show k < L.length by omega] using this
theorem ne_nil_eq {w : Wd} (h : w ≠ []) : (w == []) = false := beq_eq_false_iff_ne.2 h
def SL (L : List Wd) : Prop := L.length ≤ 1048576 ∧ ∀ w ∈ L, w.length ≤ 1048576
theorem sl_w {L : List Wd} (h : SL L) {k : Nat} (hk : k < L.length) : (L.getD k []).length ≤ 1048576 := h.2 _ (by simp [List.getD, hk])
set_option maxHeartbeats 8000000 in
theorem Tryz.specITS_ok (L : List Wd) (hL : SL L) (h : TS L) : PCall Tryz.prog 204 [rst L] (.val (.bool true)) := by
  refine FCall.pcall (R := fun r _ => r = .val (.bool true)) ?_ 0 (by rintro r H rfl; exact zg)
  refine FCall.of_body Tryz.func204 rfl (by kernel_rfl) (by simp [Tryz.ntmps204]) ?_
  refine SW_of_vc Tryz.mixed _ _ _ (by kernel_rfl) ?_
  have hl := hL.1
  have lC := zj L
  simp (disch := omega) only [go_sem, rst]
  refine LoopW.loop (fun i : Nat => ⟨ofL [(0, rst L), (3, .val (.int .i64 i))], hp [] 0⟩) (fun i => i ≤ L.length) (fun i => L.length - i) 0 (by omega) (Wk.of (by simp only [go_sem, ↓List.forall_mem_cons, List.not_mem_nil, false_implies, implies_true, and_true, true_and, and_self, ri_eq, Int.natCast_add, Int.cast_ofNat_Int, rst]; try simp) rfl) ?_
  intro i hi
  refine SW_of_vc Tryz.mixed _ _ _ (by kernel_rfl) ?_
  by_cases hlt : i < L.length
  · have hg := zn hlt
    have htk := ts_w h hlt
    have hwl := sl_w hL hlt
    have hne := ne_nil_eq (tk_ne htk)
    have hfold := tk_fold htk
    have hcs := fun k hk => tk_c (k := k) htk hk
    have hprev : ∀ p, i = p + 1 → L.getD p [] < L.getD i [] := fun p hp => by subst hp; exact ts_lt h hlt
    generalize L.getD i [] = w at *
    have wf := Tryz.specFold_ok w hwl
    rw [hfold] at wf
    have ebb : (w == w) = true := beq_self_eq_true w
    rcases Nat.eq_zero_or_pos i with hz | hpp
    · simp (disch := omega) only [go_sem, rst, hg, lC, hne]
      refine LoopW.loop (fun k : Nat => ⟨ofL [(0, rst L), (3, .val (.int .i64 (i : Nat))), (4, .val (.int .i64 k))], hp [] 0⟩) (fun k => k ≤ w.length) (fun k => w.length - k) 0 (by omega) (Wk.of (by simp only [go_sem, ↓List.forall_mem_cons, List.not_mem_nil, false_implies, implies_true, and_true, true_and, and_self, ri_eq, Int.natCast_add, Int.cast_ofNat_Int, rst]; try simp) rfl) ?_
      intro k hk
      refine SW_of_vc Tryz.mixed _ _ _ (by kernel_rfl) ?_
      by_cases hkl : k < w.length
      · have hc := hcs k hkl
        have wl := Tryz.l2Word_ok (w.getD k 0)
        rw [tk_wd hc] at wl
        have hb := u8arg (w.getD k 0)
        have hix := sb_ix hkl
        simp (disch := omega) only [go_sem, rst, hg, lC, hix, ebb]
        refine wl.callDV 0 (z6 (z8) z7) ?_
        simp (disch := omega) only [go_sem, rst, hg, lC, hix, ebb]
        refine wf.callDV 0 (z6 zd z7) ?_
        simp (disch := omega) only [go_sem, rst, hg, lC, hix, ebb]
        exact ⟨k + 1, hkl, by omega, Wk.of (by simp only [go_sem, ↓List.forall_mem_cons, List.not_mem_nil, false_implies, implies_true, and_true, true_and, and_self, ri_eq, Int.natCast_add, Int.cast_ofNat_Int, rst]; try simp) rfl⟩
      · simp (disch := omega) only [go_sem, rst, hg, lC]
        exact ⟨i + 1, hlt, by omega, Wk.of (by simp only [go_sem, ↓List.forall_mem_cons, List.not_mem_nil, false_implies, implies_true, and_true, true_and, and_self, ri_eq, Int.natCast_add, Int.cast_ofNat_Int, rst]; try simp) rfl⟩
    · obtain ⟨p, rfl⟩ : ∃ p, i = p + 1 := ⟨i - 1, by omega⟩
      have hpc : ((p + 1 : Nat) : Int) - 1 = (p : Int) := by omega
      have hgp := zn (L := L) (k := p) (by omega)
      have hd := decide_eq_true (hprev p rfl)
      simp (disch := omega) only [go_sem, rst, hg, lC, hne, hpc, hgp, hd]
      refine LoopW.loop (fun k : Nat => ⟨ofL [(0, rst L), (3, .val (.int .i64 (p + 1 : Nat))), (4, .val (.int .i64 k))], hp [] 0⟩) (fun k => k ≤ w.length) (fun k => w.length - k) 0 (by omega) (Wk.of (by simp only [go_sem, ↓List.forall_mem_cons, List.not_mem_nil, false_implies, implies_true, and_true, true_and, and_self, ri_eq, Int.natCast_add, Int.cast_ofNat_Int, rst]; try simp) rfl) ?_
      intro k hk
      refine SW_of_vc Tryz.mixed _ _ _ (by kernel_rfl) ?_
      by_cases hkl : k < w.length
      · have hc := hcs k hkl
        have wl := Tryz.l2Word_ok (w.getD k 0)
        rw [tk_wd hc] at wl
        have hb := u8arg (w.getD k 0)
        have hix := sb_ix hkl
        simp (disch := omega) only [go_sem, rst, hg, lC, hix, ebb]
        refine wl.callDV 0 (z6 (z8) z7) ?_
        simp (disch := omega) only [go_sem, rst, hg, lC, hix, ebb]
        refine wf.callDV 0 (z6 zd z7) ?_
        simp (disch := omega) only [go_sem, rst, hg, lC, hix, ebb]
        exact ⟨k + 1, hkl, by omega, Wk.of (by simp only [go_sem, ↓List.forall_mem_cons, List.not_mem_nil, false_implies, implies_true, and_true, true_and, and_self, ri_eq, Int.natCast_add, Int.cast_ofNat_Int, rst]; try simp) rfl⟩
      · simp (disch := omega) only [go_sem, rst, hg, lC]
        exact ⟨p + 1 + 1, hlt, by omega, Wk.of (by simp only [go_sem, ↓List.forall_mem_cons, List.not_mem_nil, false_implies, implies_true, and_true, true_and, and_self, ri_eq, Int.natCast_add, Int.cast_ofNat_Int, rst]; try simp) rfl⟩
  · simp (disch := omega) only [go_sem, rst]
    exact Fin.val rfl
set_option maxHeartbeats 4000000 in
theorem Tryz.isAlnum_ok (w : Wd) (hw : w.length ≤ 1048576) (h : isTk w = true) : PCall Tryz.prog 252 [str w] (.val (.bool true)) := by
  refine FCall.pcall (R := fun r _ => r = .val (.bool true)) ?_ 0 (by rintro r H rfl; exact zg)
  refine FCall.of_body Tryz.func252 rfl (by kernel_rfl) (by simp [Tryz.ntmps252]) ?_
  refine SW_of_vc Tryz.mixed _ _ _ (by kernel_rfl) ?_
  simp (disch := omega) only [go_sem]
  refine LoopW.loop (fun i : Nat => ⟨ofL [(0, str w), (5, .val (.int .i64 w.length)), (6, .val (.int .i64 i))], hp [] 0⟩) (fun i => i ≤ w.length) (fun i => w.length - i) 0 (by omega) (Wk.of (by simp only [go_sem, ↓List.forall_mem_cons, List.not_mem_nil, false_implies, implies_true, and_true, true_and, and_self, ri_eq, Int.natCast_add, Int.cast_ofNat_Int]; try simp) rfl) ?_
  intro i hi
  refine SW_of_vc Tryz.mixed _ _ _ (by kernel_rfl) ?_
  by_cases hlt : i < w.length
  · have hc := tk_c h hlt
    have hix := sb_ix hlt
    have w1 := Tryz.isSmall_ok (w.getD i 0)
    have w2 := Tryz.isDigit_ok (w.getD i 0)
    have hb := u8arg (w.getD i 0)
    cases hs : isSm (w.getD i 0) with
    | true =>
      rw [hs] at w1
      simp (disch := omega) only [go_sem, hix]
      refine w1.callV 0 (z6 (z8) z7) ?_
      simp (disch := omega) only [go_sem, hix]
      exact ⟨i + 1, hlt, by omega, Wk.of (by simp only [go_sem, ↓List.forall_mem_cons, List.not_mem_nil, false_implies, implies_true, and_true, true_and, and_self, ri_eq, Int.natCast_add, Int.cast_ofNat_Int]; try simp) rfl⟩
    | false =>
      rw [hs, Bool.false_or] at hc
      rw [hs] at w1
      rw [hc] at w2
      simp (disch := omega) only [go_sem, hix]
      refine w1.callV 0 (z6 (z8) z7) ?_
      simp (disch := omega) only [go_sem, hix]
      refine w2.callV 0 (z6 (z8) z7) ?_
      simp (disch := omega) only [go_sem, hix]
      exact ⟨i + 1, hlt, by omega, Wk.of (by simp only [go_sem, ↓List.forall_mem_cons, List.not_mem_nil, false_implies, implies_true, and_true, true_and, and_self, ri_eq, Int.natCast_add, Int.cast_ofNat_Int]; try simp) rfl⟩
  · simp (disch := omega) only [go_sem]
    exact Fin.val rfl
set_option maxHeartbeats 8000000 in
theorem Tryz.implITS_ok (L : List Wd) (hL : SL L) (h : TS L) : PCall Tryz.prog 226 [rst L] (.val (.bool true)) := by
  refine FCall.pcall (R := fun r _ => r = .val (.bool true)) ?_ 0 (by rintro r H rfl; exact zg)
  refine FCall.of_body Tryz.func226 rfl (by kernel_rfl) (by simp [Tryz.ntmps226]) ?_
  refine SW_of_vc Tryz.mixed _ _ _ (by kernel_rfl) ?_
  have hl := hL.1
  have lC := zj L
  simp (disch := omega) only [go_sem, rst]
  refine LoopW.loop (fun i : Nat => ⟨ofL [(0, rst L), (5, rst L), (6, .val (.int .i64 L.length)), (7, .val (.int .i64 i))], hp [] 0⟩) (fun i => i ≤ L.length) (fun i => L.length - i) 0 (by omega) (Wk.of (by simp only [go_sem, ↓List.forall_mem_cons, List.not_mem_nil, false_implies, implies_true, and_true, true_and, and_self, ri_eq, Int.natCast_add, Int.cast_ofNat_Int, rst]; try simp) rfl) ?_
  intro i hi
  refine SW_of_vc Tryz.mixed _ _ _ (by kernel_rfl) ?_
  by_cases hlt : i < L.length
  · have hg := zn hlt
    have htk := ts_w h hlt
    have hwl := sl_w hL hlt
    have hne := ne_nil_eq (tk_ne htk)
    have hprev : ∀ p, i = p + 1 → L.getD p [] < L.getD i [] := fun p hp => by subst hp; exact ts_lt h hlt
    have wa := Tryz.isAlnum_ok _ hwl htk
    generalize L.getD i [] = w at *
    rcases Nat.eq_zero_or_pos i with hz | hpp
    · simp (disch := omega) only [go_sem, rst, hg, lC, hne]
      refine wa.callV 0 (z6 zd z7) ?_
      simp (disch := omega) only [go_sem, rst, hg, lC, hne]
      exact ⟨i + 1, hlt, by omega, Wk.of (by simp only [go_sem, ↓List.forall_mem_cons, List.not_mem_nil, false_implies, implies_true, and_true, true_and, and_self, ri_eq, Int.natCast_add, Int.cast_ofNat_Int, rst]; try simp) rfl⟩
    · obtain ⟨p, rfl⟩ : ∃ p, i = p + 1 := ⟨i - 1, by omega⟩
      have hpc : ((p + 1 : Nat) : Int) - 1 = (p : Int) := by omega
      have hgp := zn (L := L) (k := p) (by omega)
      have hd := decide_eq_true (hprev p rfl)
      simp (disch := omega) only [go_sem, rst, hg, lC, hne, hpc, hgp, hd]
      refine wa.callV 0 (z6 zd z7) ?_
      simp (disch := omega) only [go_sem, rst, hg, lC, hne, hpc, hgp, hd]
      exact ⟨p + 1 + 1, hlt, by omega, Wk.of (by simp only [go_sem, ↓List.forall_mem_cons, List.not_mem_nil, false_implies, implies_true, and_true, true_and, and_self, ri_eq, Int.natCast_add, Int.cast_ofNat_Int, rst]; try simp) rfl⟩
  · simp (disch := omega) only [go_sem, rst]
    exact Fin.val rfl
set_option maxHeartbeats 2000000 in
theorem Tryz.l5Sets_ok (A B : List Wd) (hA : SL A) (hB : SL B) (tA : TS A) (tB : TS B) : PCall Tryz.prog 160 [rst A, rst B] (.val (.bool true)) := by
  refine FCall.pcall (R := fun r _ => r = .val (.bool true)) ?_ 0 (by rintro r H rfl; exact zg)
  refine FCall.of_body Tryz.func160 rfl (by kernel_rfl) (by simp [Tryz.ntmps160]) ?_
  refine SW_of_vc Tryz.mixed _ _ _ (by kernel_rfl) ?_
  simp (disch := omega) only [go_sem, rst]
  refine (Tryz.specITS_ok A hA tA).callV 0 (z6 zf z7) ?_
  simp (disch := omega) only [go_sem, rst]
  refine (Tryz.specITS_ok B hB tB).callV 0 (z6 zf z7) ?_
  simp (disch := omega) only [go_sem, rst]
  exact Fin.val rfl
set_option maxHeartbeats 2000000 in
theorem Tryz.areTS_ok (A B : List Wd) (hA : SL A) (hB : SL B) (tA : TS A) (tB : TS B) : PCall Tryz.prog 186 [rst A, rst B] (.val (.bool true)) := by
  refine FCall.pcall (R := fun r _ => r = .val (.bool true)) ?_ 0 (by rintro r H rfl; exact zg)
  refine FCall.of_body Tryz.func186 rfl (by kernel_rfl) (by simp [Tryz.ntmps186]) ?_
  refine SW_of_vc Tryz.mixed _ _ _ (by kernel_rfl) ?_
  simp (disch := omega) only [go_sem, rst]
  refine (Tryz.implITS_ok A hA tA).callV 0 (z6 zf z7) ?_
  simp (disch := omega) only [go_sem, rst]
  refine (Tryz.implITS_ok B hB tB).callV 0 (z6 zf z7) ?_
  simp (disch := omega) only [go_sem, rst]
  exact Fin.val rfl
end Go.Sh

/-
  Records: contracts of validity.
-/
namespace Go.Sh
open Go Go.Proofs

abbrev Rec := Int × Int × Int × List Wd
def rec4 (r : Rec) : List SV := [.val (.int .i64 r.1), .val (.int .i64 r.2.1), .val (.int .i64 r.2.2.1), .row r.2.2.2.length false (strs r.2.2.2)]
def recs (R : List Rec) : List SV := R.flatMap rec4
def rREC (R : List Rec) : SV := .row R.length false (recs R)
def dr : Rec := (0, 0, 0, [])
def gR (R : List Rec) (k : Nat) : Rec := R.getD k dr
theorem recs_length (R : List Rec) : (recs R).length = R.length * 4 := by
  induction R with
  | nil => rfl
  | cons r R ih =>
    have e : recs (r :: R) = rec4 r ++ recs R := rfl
    rw [e, List.length_append, ih, List.length_cons]; simp [rec4]; omega
theorem recs_drop : ∀ (R : List Rec) (k : Nat), (recs R).drop (k * 4) = recs (R.drop k)
  | R, 0 => by simp
  | [], k + 1 => by simp [recs]
  | r :: R, k + 1 => by
    have e : recs (r :: R) = rec4 r ++ recs R := rfl
    rw [e, show (k + 1) * 4 = 4 + k * 4 by omega, ← List.drop_drop]
    show (recs R).drop (k * 4) = recs (R.drop k)
    exact recs_drop R k
theorem recs_load {R : List Rec} {k : Nat} (h : k < R.length) : ((recs R).drop (k * 4)).take 4 = rec4 (gR R k) := by
  rw [recs_drop, List.drop_eq_getElem_cons h]
  show (rec4 _ ++ recs _).take 4 = _
  simp [rec4, gR, h]
theorem rec_ex (R : List Rec) (k : Nat) : ∃ a b c F, gR R k = (a, b, c, F) := ⟨_, _, _, _, rfl⟩
theorem view_rec {H : Heap} {f n : Nat} {ex : Bool} {a b c : Int} {cs : List SV} : view H (f + 1) (.agg [.val (.int .i64 a), .val (.int .i64 b), .val (.int .i64 c), .row n ex cs]) = some (.agg [.val (.int .i64 a), .val (.int .i64 b), .val (.int .i64 c), .row n false cs]) :=
  view_agg (z6 z8 (z6 z8 (z6 z8 (z6 zf z7))))
abbrev sRec (a b c : Int) (F : List Wd) : SV := .agg [.val (.int .i64 a), .val (.int .i64 b), .val (.int .i64 c), .row F.length false (strs F)]
def vRec (r : Rec) : Bool := r.2.2.2.all isFd && (inR r.1 0 3 && (inR r.2.1 1 99 && (inR r.2.2.1 1 999 && decide (r.2.2.2.length = 4))))
def LF (F : List Wd) : Prop := F.length ≤ 1048576 ∧ ∀ k, k < F.length → (F.getD k []).length ≤ 1048576
set_option maxHeartbeats 8000000 in
theorem Tryz.specVRec_ok (a b c : Int) (F : List Wd) (hF : LF F) : PCall Tryz.prog 65 [sRec a b c F] (.val (.bool (vRec (a, b, c, F)))) := by
  refine FCall.pcall (R := fun r _ => r = .val (.bool (vRec (a, b, c, F)))) ?_ 0 (by rintro r H rfl; exact zg)
  have w1 := Tryz.l1In_ok a 0 3
  have w2 := Tryz.l1In_ok b 1 99
  have w3 := Tryz.l1In_ok c 1 999
  have hl := hF.1
  refine FCall.of_body Tryz.func65 rfl (by kernel_rfl) (by simp [Tryz.ntmps65]) ?_
  refine SW_of_vc Tryz.mixed _ _ _ (by kernel_rfl) ?_
  simp (disch := omega) only [go_sem]
  refine LoopW.loop (fun i : Nat => ⟨ofL [(1, .optr 0 0), (2, .val (.bool false)), (3, .val (.int .i64 i))], hp [(0, ⟨[.val (.int .i64 a), .val (.int .i64 b), .val (.int .i64 c), .row F.length false (strs F)], true⟩)] 1⟩) (fun i => i ≤ F.length ∧ ∀ k, k < i → isFd (F.getD k []) = true) (fun i => F.length - i) 0 ⟨by omega, fun k h => by omega⟩ (Wk.ofH (by simp only [go_sem, ↓List.forall_mem_cons, List.not_mem_nil, false_implies, implies_true, and_true, true_and, and_self, ri_eq, Int.natCast_add, Int.cast_ofNat_Int]; try simp) (by simp (disch := omega) only [go_sem, ↓List.forall_mem_cons, List.not_mem_nil, false_implies, implies_true, and_true, true_and, and_self, ri_eq, Int.natCast_add, Int.cast_ofNat_Int, if_pos, if_neg, Nat.reduceAdd, List.nil_append]; try simp) (Nat.le_refl _)) ?_
  rintro i ⟨hi, hb⟩
  refine SW_of_vc Tryz.mixed _ _ _ (by kernel_rfl) ?_
  by_cases hlt : i < F.length
  · have hat := zn hlt
    have wf := Tryz.specFd_ok (F.getD i []) (hF.2 i hlt)
    cases hx : isFd (F.getD i []) with
    | false =>
      rw [hx] at wf
      have hv : vRec (a, b, c, F) = false := by rw [vRec, all_not [] hlt hx, Bool.false_and]
      rw [hv]
      simp (disch := omega) only [go_sem, hat]
      refine wf.callV 0 (z6 zd z7) ?_
      simp (disch := omega) only [go_sem, hat]
      exact Fin.val rfl
    | true =>
      rw [hx] at wf
      simp (disch := omega) only [go_sem, hat]
      refine wf.callV 0 (z6 zd z7) ?_
      simp (disch := omega) only [go_sem, hat]
      refine ⟨i + 1, ⟨hlt, fun k hk => ?_⟩, by omega, Wk.ofH (by simp only [go_sem, ↓List.forall_mem_cons, List.not_mem_nil, false_implies, implies_true, and_true, true_and, and_self, ri_eq, Int.natCast_add, Int.cast_ofNat_Int]; try simp) (by simp (disch := omega) only [go_sem, ↓List.forall_mem_cons, List.not_mem_nil, false_implies, implies_true, and_true, true_and, and_self, ri_eq, Int.natCast_add, Int.cast_ofNat_Int, if_pos, if_neg, Nat.reduceAdd, List.nil_append]; try simp) (Nat.le_refl _)⟩
      rcases Nat.lt_succ_iff_lt_or_eq.1 hk with g | g
      · exact hb k g
      · rw [g]; exact hx
  · obtain rfl : i = F.length := by omega
    have hv : vRec (a, b, c, F) = (inR a 0 3 && (inR b 1 99 && (inR c 1 999 && decide (F.length = 4)))) := by rw [vRec, (all_getD []).2 hb, Bool.true_and]
    have he : decide (F.length = 4) = ((F.length : Int) == 4) := by rw [Bool.eq_iff_iff]; simp; omega
    rw [hv, he]
    cases h1 : inR a 0 3 with
    | false =>
      rw [h1] at w1
      simp (disch := omega) only [go_sem]
      refine w1.callV 0 (z6 (z8) (z6 (z8) (z6 (z8) z7))) ?_
      simp (disch := omega) only [go_sem]
      exact Fin.val rfl
    | true =>
      rw [h1] at w1
      cases h2 : inR b 1 99 with
      | false =>
        rw [h2] at w2
        simp (disch := omega) only [go_sem]
        refine w1.callV 0 (z6 (z8) (z6 (z8) (z6 (z8) z7))) ?_
        simp (disch := omega) only [go_sem]
        refine w2.callV 0 (z6 (z8) (z6 (z8) (z6 (z8) z7))) ?_
        simp (disch := omega) only [go_sem]
        exact Fin.val rfl
      | true =>
        rw [h2] at w2
        cases h3 : inR c 1 999 with
        | false =>
          rw [h3] at w3
          simp (disch := omega) only [go_sem]
          refine w1.callV 0 (z6 (z8) (z6 (z8) (z6 (z8) z7))) ?_
          simp (disch := omega) only [go_sem]
          refine w2.callV 0 (z6 (z8) (z6 (z8) (z6 (z8) z7))) ?_
          simp (disch := omega) only [go_sem]
          refine w3.callV 0 (z6 (z8) (z6 (z8) (z6 (z8) z7))) ?_
          simp (disch := omega) only [go_sem]
          exact Fin.val rfl
        | true =>
          rw [h3] at w3
          simp (disch := omega) only [go_sem]
          refine w1.callV 0 (z6 (z8) (z6 (z8) (z6 (z8) z7))) ?_
          simp (disch := omega) only [go_sem]
          refine w2.callV 0 (z6 (z8) (z6 (z8) (z6 (z8) z7))) ?_
          simp (disch := omega) only [go_sem]
          refine w3.callV 0 (z6 (z8) (z6 (z8) (z6 (z8) z7))) ?_
          simp (disch := omega) only [go_sem]
          exact Fin.val rfl
set_option maxHeartbeats 1000000 in
theorem Tryz.indexFuncS_ok (f : FuncId) (cap : List SV) (L : List Wd) (pr : Wd → Bool) (hL : L.length ≤ 1048576) (hcap : ∀ H fu, viewL H fu cap = some cap)
    (hf : ∀ k, k < L.length → PCall Tryz.prog f (str (L.getD k []) :: cap) (.val (.bool (pr (L.getD k []))))) :
    PCall Tryz.prog 175 [rst L, .clos (.func f) [] cap] (.val (.int .i64 (fx pr L))) := by
  refine FCall.pcall (R := fun r _ => r = .val (.int .i64 (fx pr L))) ?_ 0 (by rintro r H rfl; exact z8)
  refine FCall.of_body Tryz.func175 rfl (by kernel_rfl) (by simp [Tryz.ntmps175]) ?_
  refine SW_of_vc Tryz.mixed _ _ _ (by kernel_rfl) ?_
  have lC := zj L
  simp (disch := omega) only [go_sem, rst]
  refine LoopW.loop (fun k : Nat => ⟨ofL [(0, rst L), (1, .clos (.func f) [] cap), (7, .val (.int .i64 L.length)), (8, .val (.int .i64 k))], hp [] 0⟩) (fun k => k ≤ L.length ∧ ∀ i, i < k → pr (L.getD i []) = false) (fun k => L.length - k) 0 ⟨by omega, by simp⟩ (Wk.of (by simp only [go_sem, ↓List.forall_mem_cons, List.not_mem_nil, false_implies, implies_true, and_true, true_and, and_self, ri_eq, Int.natCast_add, Int.cast_ofNat_Int, rst]; try simp) rfl) ?_
  rintro k ⟨hk, hkk⟩
  refine SW_of_vc Tryz.mixed _ _ _ (by kernel_rfl) ?_
  by_cases hlt : k < L.length
  · have gk := zn hlt
    simp (disch := omega) only [go_sem, rst, gk, lC]
    refine (hf k hlt).callV 1 (z6 zd (hcap _ _)) ?_
    cases he : pr (L.getD k []) with
    | true =>
      simp (disch := omega) only [go_sem, rst]
      exact Fin.val (by rw [fx_some [] hlt hkk he])
    | false =>
      simp (disch := omega) only [go_sem, rst]
      refine ⟨k + 1, ⟨by omega, fun i hi => ?_⟩, by omega, Wk.of (by simp only [go_sem, ↓List.forall_mem_cons, List.not_mem_nil, false_implies, implies_true, and_true, true_and, and_self, ri_eq, Int.natCast_add, Int.cast_ofNat_Int, rst]; try simp) rfl⟩
      rcases Nat.lt_succ_iff_lt_or_eq.mp hi with h | rfl
      · exact hkk i h
      · exact he
  · simp (disch := omega) only [go_sem, rst]
    exact Fin.val (by rw [fx_none [] (fun i hi => hkk i (by omega))])
theorem Tryz.containsFuncS_ok (f : FuncId) (cap : List SV) (L : List Wd) (pr : Wd → Bool) (hL : L.length ≤ 1048576) (hcap : ∀ H fu, viewL H fu cap = some cap)
    (hf : ∀ k, k < L.length → PCall Tryz.prog f (str (L.getD k []) :: cap) (.val (.bool (pr (L.getD k []))))) :
    PCall Tryz.prog 132 [rst L, .clos (.func f) [] cap] (.val (.bool (L.any pr))) := by
  refine FCall.pcall (R := fun r _ => r = .val (.bool (L.any pr))) ?_ 0 (by rintro r H rfl; exact zg)
  refine FCall.of_body Tryz.func132 rfl (by kernel_rfl) (by simp [Tryz.ntmps132]) ?_
  have w := Tryz.indexFuncS_ok f cap L pr hL hcap hf
  have hg := fx_ge pr L
  generalize fx pr L = q at *
  refine SW_of_vc Tryz.mixed _ _ _ (by kernel_rfl) ?_
  cases h : L.any pr with
  | true =>
    have := hg.mpr h
    simp (disch := omega) only [go_sem, rst]
    refine w.callV 1 (z6 zf (z6 (view_clos (hcap _ _)) z7)) ?_
    simp (disch := omega) only [go_sem]
    exact Fin.val rfl
  | false =>
    have : ¬ 0 ≤ q := fun e => by rw [hg.mp e] at h; cases h
    simp (disch := omega) only [go_sem, rst]
    refine w.callV 1 (z6 zf (z6 (view_clos (hcap _ _)) z7)) ?_
    simp (disch := omega) only [go_sem]
    exact Fin.val rfl
theorem Tryz.vRec1_ok (t : Wd) (ht : t.length ≤ 1048576) : PCall Tryz.prog 133 [str t] (.val (.bool (!isFd t))) := by
  refine FCall.pcall (R := fun r _ => r = .val (.bool (!isFd t))) ?_ 0 (by rintro r H rfl; exact zg)
  refine FCall.of_body Tryz.func133 rfl (by kernel_rfl) (by simp [Tryz.ntmps133]) ?_
  have w := Tryz.implFd_ok t ht
  refine SW_of_vc Tryz.mixed _ _ _ (by kernel_rfl) ?_
  simp (disch := omega) only [go_sem]
  refine w.callV 0 (z6 zd z7) ?_
  simp (disch := omega) only [go_sem]
  exact Fin.val rfl
set_option maxHeartbeats 4000000 in
theorem Tryz.implVRec_ok (a b c : Int) (F : List Wd) (hF : LF F) : PCall Tryz.prog 88 [sRec a b c F] (.val (.bool (vRec (a, b, c, F)))) := by
  refine FCall.pcall (R := fun r _ => r = .val (.bool (vRec (a, b, c, F)))) ?_ 0 (by rintro r H rfl; exact zg)
  have w1 := Tryz.within_ok a 0 3
  have w2 := Tryz.within_ok b 1 99
  have w3 := Tryz.within_ok c 1 999
  have wF := Tryz.containsFuncS_ok 133 [] F (fun t => !isFd t) hF.1 (fun _ _ => z7) (fun k hk => Tryz.vRec1_ok _ (hF.2 k hk))
  have hn := any_not (L := F) (p := isFd)
  have hl := hF.1
  refine FCall.of_body Tryz.func88 rfl (by kernel_rfl) (by simp [Tryz.ntmps88]) ?_
  refine SW_of_vc Tryz.mixed _ _ _ (by kernel_rfl) ?_
  rw [vRec]
  simp only
  cases h1 : inR a 0 3 with
  | false =>
    rw [h1] at w1
    simp (disch := omega) only [go_sem]
    refine w1.callV 0 (z6 (z8) (z6 (z8) (z6 (z8) z7))) ?_
    simp (disch := omega) only [go_sem]
    exact Fin.val rfl
  | true =>
    rw [h1] at w1
    cases h2 : inR b 1 99 with
    | false =>
      rw [h2] at w2
      simp (disch := omega) only [go_sem]
      refine w1.callV 0 (z6 (z8) (z6 (z8) (z6 (z8) z7))) ?_
      simp (disch := omega) only [go_sem]
      refine w2.callV 0 (z6 (z8) (z6 (z8) (z6 (z8) z7))) ?_
      simp (disch := omega) only [go_sem]
      exact Fin.val rfl
    | true =>
      rw [h2] at w2
      cases h3 : inR c 1 999 with
      | false =>
        rw [h3] at w3
        simp (disch := omega) only [go_sem]
        refine w1.callV 0 (z6 (z8) (z6 (z8) (z6 (z8) z7))) ?_
        simp (disch := omega) only [go_sem]
        refine w2.callV 0 (z6 (z8) (z6 (z8) (z6 (z8) z7))) ?_
        simp (disch := omega) only [go_sem]
        refine w3.callV 0 (z6 (z8) (z6 (z8) (z6 (z8) z7))) ?_
        simp (disch := omega) only [go_sem]
        exact Fin.val rfl
      | true =>
        rw [h3] at w3
        by_cases h4 : F.length = 4
        · have e4 : ((F.length : Int) == 4) = true := by rw [h4]; rfl
          simp (disch := omega) only [go_sem, e4]
          refine w1.callV 0 (z6 (z8) (z6 (z8) (z6 (z8) z7))) ?_
          simp (disch := omega) only [go_sem, e4]
          refine w2.callV 0 (z6 (z8) (z6 (z8) (z6 (z8) z7))) ?_
          simp (disch := omega) only [go_sem, e4]
          refine w3.callV 0 (z6 (z8) (z6 (z8) (z6 (z8) z7))) ?_
          simp (disch := omega) only [go_sem, e4]
          refine wF.callV 1 (z6 zf (z6 (view_clos z7) z7)) ?_
          simp (disch := omega) only [go_sem]
          exact Fin.val (by rw [hn])
        · have e4 : ((F.length : Int) == 4) = false := by rw [beq_eq_false_iff_ne]; omega
          simp (disch := omega) only [go_sem, e4]
          refine w1.callV 0 (z6 (z8) (z6 (z8) (z6 (z8) z7))) ?_
          simp (disch := omega) only [go_sem, e4]
          refine w2.callV 0 (z6 (z8) (z6 (z8) (z6 (z8) z7))) ?_
          simp (disch := omega) only [go_sem, e4]
          refine w3.callV 0 (z6 (z8) (z6 (z8) (z6 (z8) z7))) ?_
          simp (disch := omega) only [go_sem, e4]
          exact Fin.val (by first | rfl | simp [h4])
def LR (R : List Rec) : Prop := R.length ≤ 1048576 ∧ ∀ k, k < R.length → LF (gR R k).2.2.2
def vAll (R : List Rec) : Bool := R.all vRec
set_option maxHeartbeats 1000000 in
theorem Tryz.indexFuncRec_ok (f : FuncId) (R : List Rec) (pr : Rec → Bool) (hL : R.length ≤ 1048576)
    (hf : ∀ k, k < R.length → PCall Tryz.prog f [.agg (rec4 (gR R k))] (.val (.bool (pr (gR R k))))) :
    PCall Tryz.prog 131 [rREC R, .clos (.func f) [] []] (.val (.int .i64 (fx pr R))) := by
  refine FCall.pcall (R := fun r _ => r = .val (.int .i64 (fx pr R))) ?_ 0 (by rintro r H rfl; exact z8)
  refine FCall.of_body Tryz.func131 rfl (by kernel_rfl) (by simp [Tryz.ntmps131]) ?_
  refine SW_of_vc Tryz.mixed _ _ _ (by kernel_rfl) ?_
  have lC := recs_length R
  simp (disch := omega) only [go_sem, rREC]
  refine LoopW.loop (fun k : Nat => ⟨ofL [(0, rREC R), (1, .clos (.func f) [] []), (7, .val (.int .i64 R.length)), (8, .val (.int .i64 k))], hp [] 0⟩) (fun k => k ≤ R.length ∧ ∀ i, i < k → pr (R.getD i dr) = false) (fun k => R.length - k) 0 ⟨by omega, by simp⟩ (Wk.of (by simp only [go_sem, ↓List.forall_mem_cons, List.not_mem_nil, false_implies, implies_true, and_true, true_and, and_self, ri_eq, Int.natCast_add, Int.cast_ofNat_Int, rREC]; try simp) rfl) ?_
  rintro k ⟨hk, hkk⟩
  refine SW_of_vc Tryz.mixed _ _ _ (by kernel_rfl) ?_
  by_cases hlt : k < R.length
  · have gl := recs_load hlt
    have wf := hf k hlt
    obtain ⟨a, b, c, F, hr⟩ := rec_ex R k
    rw [hr] at gl wf
    simp only [rec4] at gl wf
    simp (disch := omega) only [go_sem, rREC, gl, lC]
    refine wf.callV 1 (z6 view_rec z7) ?_
    cases he : pr (a, b, c, F) with
    | true =>
      simp (disch := omega) only [go_sem, rREC]
      exact Fin.val (by rw [fx_some dr hlt hkk (by rw [← he, ← hr]; rfl)])
    | false =>
      simp (disch := omega) only [go_sem, rREC]
      refine ⟨k + 1, ⟨by omega, fun i hi => ?_⟩, by omega, Wk.of (by simp only [go_sem, ↓List.forall_mem_cons, List.not_mem_nil, false_implies, implies_true, and_true, true_and, and_self, ri_eq, Int.natCast_add, Int.cast_ofNat_Int, rREC]; try simp) rfl⟩
      rcases Nat.lt_succ_iff_lt_or_eq.mp hi with h | rfl
      · exact hkk i h
      · rw [← he, ← hr]; rfl
  · simp (disch := omega) only [go_sem, rREC]
    exact Fin.val (by rw [fx_none dr (fun i hi => hkk i (by omega))])
theorem Tryz.containsFuncRec_ok (f : FuncId) (R : List Rec) (pr : Rec → Bool) (hL : R.length ≤ 1048576)
    (hf : ∀ k, k < R.length → PCall Tryz.prog f [.agg (rec4 (gR R k))] (.val (.bool (pr (gR R k))))) :
    PCall Tryz.prog 86 [rREC R, .clos (.func f) [] []] (.val (.bool (R.any pr))) := by
  refine FCall.pcall (R := fun r _ => r = .val (.bool (R.any pr))) ?_ 0 (by rintro r H rfl; exact zg)
  refine FCall.of_body Tryz.func86 rfl (by kernel_rfl) (by simp [Tryz.ntmps86]) ?_
  have w := Tryz.indexFuncRec_ok f R pr hL hf
  have hg := fx_ge pr R
  generalize fx pr R = q at *
  refine SW_of_vc Tryz.mixed _ _ _ (by kernel_rfl) ?_
  cases h : R.any pr with
  | true =>
    have := hg.mpr h
    simp (disch := omega) only [go_sem, rREC]
    refine w.callV 1 (z6 zf (z6 (view_clos z7) z7)) ?_
    simp (disch := omega) only [go_sem]
    exact Fin.val rfl
  | false =>
    have : ¬ 0 ≤ q := fun e => by rw [hg.mp e] at h; cases h
    simp (disch := omega) only [go_sem, rREC]
    refine w.callV 1 (z6 zf (z6 (view_clos z7) z7)) ?_
    simp (disch := omega) only [go_sem]
    exact Fin.val rfl
theorem Tryz.areRec1_ok (a b c : Int) (F : List Wd) (hF : LF F) : PCall Tryz.prog 87 [sRec a b c F] (.val (.bool (!vRec (a, b, c, F)))) := by
  refine FCall.pcall (R := fun r _ => r = .val (.bool (!vRec (a, b, c, F)))) ?_ 0 (by rintro r H rfl; exact zg)
  refine FCall.of_body Tryz.func87 rfl (by kernel_rfl) (by simp [Tryz.ntmps87]) ?_
  have w := Tryz.implVRec_ok a b c F hF
  refine SW_of_vc Tryz.mixed _ _ _ (by kernel_rfl) ?_
  simp (disch := omega) only [go_sem]
  refine w.callV 1 (z6 view_rec z7) ?_
  simp (disch := omega) only [go_sem]
  exact Fin.val rfl
theorem Tryz.areRecs_ok (R : List Rec) (hR : LR R) : PCall Tryz.prog 47 [rREC R] (.val (.bool (vAll R))) := by
  refine FCall.pcall (R := fun r _ => r = .val (.bool (vAll R))) ?_ 0 (by rintro r H rfl; exact zg)
  refine FCall.of_body Tryz.func47 rfl (by kernel_rfl) (by simp [Tryz.ntmps47]) ?_
  have w := Tryz.containsFuncRec_ok 87 R (fun r => !vRec r) hR.1 (fun k hk => by
    have hF := hR.2 k hk
    obtain ⟨a, b, c, F, hr⟩ := rec_ex R k
    rw [hr] at hF ⊢
    exact Tryz.areRec1_ok a b c F hF)
  have e := any_not (L := R) (p := vRec)
  refine SW_of_vc Tryz.mixed _ _ _ (by kernel_rfl) ?_
  simp (disch := omega) only [go_sem, rREC]
  refine w.callV 1 (z6 zf (z6 (view_clos z7) z7)) ?_
  simp (disch := omega) only [go_sem]
  exact Fin.val (by rw [e, vAll])
set_option maxHeartbeats 1000000 in
theorem Tryz.l13Good_ok (R : List Rec) (hR : LR R) : PCall Tryz.prog 38 [rREC R] (.val (.bool (vAll R && decide (R.length ≤ 12)))) := by
  refine FCall.pcall (R := fun r _ => r = .val (.bool (vAll R && decide (R.length ≤ 12)))) ?_ 0 (by rintro r H rfl; exact zg)
  refine FCall.of_body Tryz.func38 rfl (by kernel_rfl) (by simp [Tryz.ntmps38]) ?_
  refine SW_of_vc Tryz.mixed _ _ _ (by kernel_rfl) ?_
  have hl := hR.1
  have lC := recs_length R
  simp (disch := omega) only [go_sem, rREC]
  refine LoopW.loop (fun k : Nat => ⟨ofL [(0, rREC R), (2, .val (.bool false)), (3, .val (.int .i64 k))], hp [] 0⟩) (fun k => k ≤ R.length ∧ ∀ i, i < k → vRec (R.getD i dr) = true) (fun k => R.length - k) 0 ⟨by omega, by simp⟩ (Wk.of (by simp only [go_sem, ↓List.forall_mem_cons, List.not_mem_nil, false_implies, implies_true, and_true, true_and, and_self, ri_eq, Int.natCast_add, Int.cast_ofNat_Int, rREC]; try simp) rfl) ?_
  rintro k ⟨hk, hkk⟩
  refine SW_of_vc Tryz.mixed _ _ _ (by kernel_rfl) ?_
  by_cases hlt : k < R.length
  · have gl := recs_load hlt
    have hF := hR.2 k hlt
    obtain ⟨a, b, c, F, hr⟩ := rec_ex R k
    rw [hr] at gl hF
    simp only [rec4] at gl
    have wf := Tryz.specVRec_ok a b c F hF
    cases he : vRec (a, b, c, F) with
    | false =>
      rw [he] at wf
      have hv : vAll R = false := all_not dr hlt (by rw [← he, ← hr]; rfl)
      rw [hv]
      simp (disch := omega) only [go_sem, rREC, gl, lC]
      refine wf.callV 1 (z6 view_rec z7) ?_
      simp (disch := omega) only [go_sem, rREC]
      exact Fin.val rfl
    | true =>
      rw [he] at wf
      simp (disch := omega) only [go_sem, rREC, gl, lC]
      refine wf.callV 1 (z6 view_rec z7) ?_
      simp (disch := omega) only [go_sem, rREC]
      refine ⟨k + 1, ⟨by omega, fun i hi => ?_⟩, by omega, Wk.of (by simp only [go_sem, ↓List.forall_mem_cons, List.not_mem_nil, false_implies, implies_true, and_true, true_and, and_self, ri_eq, Int.natCast_add, Int.cast_ofNat_Int, rREC]; try simp) rfl⟩
      rcases Nat.lt_succ_iff_lt_or_eq.mp hi with h | rfl
      · exact hkk i h
      · rw [← he, ← hr]; rfl
  · obtain rfl : k = R.length := by omega
    have hv : vAll R = true := (all_getD dr).2 hkk
    rw [hv, Bool.true_and, show decide (R.length ≤ 12) = decide ((R.length : Int) ≤ 12) from decide_eq_decide.2 (by omega)]
    simp (disch := omega) only [go_sem, rREC]
    exact Fin.val rfl
end Go.Sh

/-
  strconv.Atoi at every string: contracts.
-/
namespace Go.Sh
open Go Go.Proofs

def ErrV (v : Value) : Prop := v = .nilIface ∨ ∃ te pe, v = .iface te pe
theorem Tryz.errS {O : Nat → Prop} {w : World} (h : TabOk O w) : ∃ ev, w.cell? ⟨2, 0, none⟩ = some ev ∧ (ev = .nilIface ∨ ∃ te pe, ev = .iface te pe) := by
  obtain ⟨_, hc⟩ := h (2, [fun v => v = .nilIface ∨ ∃ te pe, v = .iface te pe]) (by simp [TABS])
  obtain ⟨v, h1, h2, _⟩ := hc 0 _ rfl
  exact ⟨v, h1, h2⟩
theorem Tryz.errR {O : Nat → Prop} {w : World} (h : TabOk O w) : ∃ ev, w.cell? ⟨3, 0, none⟩ = some ev ∧ (ev = .nilIface ∨ ∃ te pe, ev = .iface te pe) := by
  obtain ⟨_, hc⟩ := h (3, [fun v => v = .nilIface ∨ ∃ te pe, v = .iface te pe]) (by simp [TABS])
  obtain ⟨v, h1, h2, _⟩ := hc 0 _ rfl
  exact ⟨v, h1, h2⟩
theorem Tryz.atoi_t (s : List UInt8) (v : Int) (h : Lib.atoiAll s = .ok v) (hs : s.length ≤ 1048576) : PCall Tryz.prog 170 [str s] (.tup [.val (.int .i64 v), .val .nilIface]) := by
  refine ⟨⟨_, Tryz.func170, rfl, rfl⟩, fun w vs hl _ => ?_⟩
  simp only [LRel, VRel] at hl
  obtain ⟨x, rest, rfl, rfl, rfl⟩ := hl
  refine (Tryz.strconv_Atoi_ok (sb s) (by rw [sb_size]; omega) v (by rw [sb_data]; exact h) w).mono ?_
  rintro e w' ⟨rfl, hw⟩
  refine ⟨_, rfl, ?_, ?_⟩
  · rcases hw with rfl | ⟨t, rfl⟩
    · exact RowKit.Below.refl _ _
    · exact Lib.bytesWorld_below _ _ _
  · simp only [VRel, LRel]; exact ⟨[_, _], rfl, _, _, rfl, rfl, _, _, rfl, rfl, rfl⟩
theorem Tryz.atoi_n (s : List UInt8) (h : ∀ v, Lib.atoiAll s ≠ .ok v) (hs : s.length ≤ 1048576) : ∃ x : Int, PCall Tryz.prog 170 [str s] (.tup [.val (.int .i64 x), .iface 210 .undef]) := by
  cases hh : Lib.atoiAll s with
  | ok v => exact absurd hh (h v)
  | «syntax» =>
    refine ⟨0, ⟨_, Tryz.func170, rfl, rfl⟩, fun w vs hl ht => ?_⟩
    simp only [LRel, VRel] at hl
    obtain ⟨x, rest, rfl, rfl, rfl⟩ := hl
    obtain ⟨ev, h1, h2⟩ := Tryz.errS ht
    refine (Tryz.strconv_Atoi_syntax (sb s) (by rw [sb_size]; omega) (by rw [sb_data]; exact hh) ev w h1 h2).mono ?_
    rintro e w' ⟨N, rfl, _, _, hb⟩
    refine ⟨_, rfl, hb, ?_⟩
    simp only [VRel, LRel]; exact ⟨[_, _], rfl, _, _, rfl, rfl, _, _, rfl, ⟨_, rfl, trivial⟩, rfl⟩
  | range =>
    refine ⟨Lib.atoiSat s, ⟨_, Tryz.func170, rfl, rfl⟩, fun w vs hl ht => ?_⟩
    simp only [LRel, VRel] at hl
    obtain ⟨x, rest, rfl, rfl, rfl⟩ := hl
    obtain ⟨ev, h1, h2⟩ := Tryz.errR ht
    refine (Tryz.strconv_Atoi_range (sb s) (by rw [sb_size]; omega) (by rw [sb_data]; exact hh) ev w h1 h2).mono ?_
    rintro e w' ⟨N, rfl, _, _, hb⟩
    refine ⟨_, rfl, hb, ?_⟩
    simp only [VRel, LRel]; exact ⟨[_, _], by rw [sb_data], _, _, rfl, rfl, _, _, rfl, ⟨_, rfl, trivial⟩, rfl⟩
theorem atoiAll_i64 {s : List UInt8} {v : Int} (h : Lib.atoiAll s = .ok v) : -9223372036854775808 ≤ v ∧ v ≤ 9223372036854775807 := by
  unfold Lib.atoiAll at h
  split at h
  · cases h
  · simp only at h
    split at h
    · cases h
    · cases h
    · split at h
      · cases h
      · split at h
        · cases h
        · simp only [Lib.NumEnd.ok.injEq] at h
          subst h
          split <;> omega
end Go.Sh

/-
  ParseInt: contracts of both.
-/
namespace Go.Sh
open Go Go.Proofs

theorem fin_pr {R : SV → Heap → Prop} {a b : Value} {H : Heap} (h : R (.tup [.val a, .val b]) ⟨fun _ => none, H.nb⟩) : Fin R (.tup [.val a, .val b]) H :=
  ⟨⟨fun _ => none, H.nb⟩, ⟨rfl, fun _ => .inl rfl⟩, by simp [noRow, noRowL], fun b blk hb => by simp at hb, h⟩
abbrev pIR (s : List UInt8) : SV := .tup [.val (.int .i64 ((pint s).getD 0)), .val (.bool (pint s).isSome)]
theorem view_pr {H : Heap} {f : Nat} {k : IntKind} {n : Int} {b : Bool} : view H (f + 1) (.tup [.val (.int k n), .val (.bool b)]) = some (.tup [.val (.int k n), .val (.bool b)]) := by
  have h1 : viewL H f [.val (.int k n), .val (.bool b)] = some [.val (.int k n), .val (.bool b)] := z6 z8 (z6 zg z7)
  simp only [view, h1]
theorem fin_pI {s : List UInt8} {o : Option Int} {n : Int} {b : Bool} {H : Heap} (hp : pint s = o) (hn : n = o.getD 0) (hb : b = o.isSome) : Fin (fun r _ => r = pIR s) (.tup [.val (.int .i64 n), .val (.bool b)]) H :=
  fin_pr (by unfold pIR; rw [hp, hn, hb])
theorem take_succD {s : List UInt8} {i : Nat} (h : i < s.length) : s.take (i + 1) = s.take i ++ [s.getD i 0] := by
  rw [List.take_add_one, List.getElem?_eq_getElem h]; simp [List.getD, h]
theorem dval_succ {s : List UInt8} {i : Nat} (h : i < s.length) : dval (s.take (i + 1)) = dstep (dval (s.take i)) (s.getD i 0) := by
  rw [take_succD h, dval, List.foldl_append]; rfl
theorem dcnt_succ {s : List UInt8} {i : Nat} (h : i < s.length) : dcnt (s.take (i + 1)) = dcnt (s.take i) + if dgt (s.getD i 0) = true then 1 else 0 := by
  rw [take_succD h, dcnt, List.countP_append, List.countP_singleton]; rfl
theorem dcnt_le (s : List UInt8) (i : Nat) : dcnt (s.take i) ≤ i := by
  refine Nat.le_trans List.countP_le_length ?_
  rw [List.length_take]; omega
theorem dval_b {s : List UInt8} {i : Nat} (h : i ≤ 11) : dval (s.take i) < 100000000000 := by
  have h1 := dval_lt (s.take i)
  have h2 := pow10_le (k := dcnt (s.take i)) (m := 11) (by have := dcnt_le s i; omega)
  omega
theorem dval_b10 {s : List UInt8} {i : Nat} (h : i ≤ 10) : dval (s.take i) < 10000000000 := by
  have h1 := dval_lt (s.take i)
  have h2 := pow10_le (k := dcnt (s.take i)) (m := 10) (by have := dcnt_le s i; omega)
  omega
theorem pint_t {s : List UInt8} (h1 : dcnt s ≤ 9) (h2 : s.length ≤ 10) (h3 : Lib.itoa (nval s) = s) : pint s = some (nval s) := by rw [pint, if_pos ⟨h1, h2, h3⟩]
theorem pint_f {s : List UInt8} (h : ¬ (dcnt s ≤ 9 ∧ s.length ≤ 10 ∧ Lib.itoa (nval s) = s)) : pint s = none := by rw [pint, if_neg h]
theorem sb_ix0 {s : List UInt8} (h : 0 < s.length) : (if h : 0 < s.length then some (SV.val (.int .u8 ((sb s)[0]'(by rw [sb_size]; exact h)).toNat)) else none) = some (.val (.int .u8 (s.getD 0 0).toNat)) := by
  rw [dif_pos h]
  simp [sb, ByteArray.getElem_eq_getElem_data, h]
set_option maxHeartbeats 4000000 in
theorem Tryz.specPI_ok (s : List UInt8) (hs : s.length ≤ 1048576) : PCall Tryz.prog 121 [str s] (pIR s) := by
  refine FCall.pcall (R := fun r _ => r = pIR s) ?_ 1 (by rintro r H rfl; exact view_pr)
  refine FCall.of_body Tryz.func121 rfl (by kernel_rfl) (by simp [Tryz.ntmps121]) ?_
  refine SW_of_vc Tryz.mixed _ _ _ (by kernel_rfl) ?_
  simp (disch := omega) only [go_sem]
  refine LoopW.loop (fun i : Nat => ⟨ofL [(0, str s), (4, .val (.int .i64 (dval (s.take i)))), (5, .val (.int .i64 (dcnt (s.take i)))), (6, .val (.int .i64 i))], hp [] 0⟩) (fun i => i ≤ s.length ∧ i ≤ 11) (fun i => 11 - i) 0 (by omega) (Wk.of (by simp only [go_sem, ↓List.forall_mem_cons, List.not_mem_nil, false_implies, implies_true, and_true, true_and, and_self, ri_eq, Int.natCast_add, Int.cast_ofNat_Int, List.take_zero, show dval [] = 0 from rfl, show dcnt [] = 0 from rfl]; try simp) rfl) ?_
  rintro i ⟨hi, hi11⟩
  have hb11 := dval_b (s := s) hi11
  have hc11 := dcnt_le s i
  refine SW_of_vc Tryz.mixed _ _ _ (by kernel_rfl) ?_
  by_cases hlt : i < s.length ∧ i < 11
  · obtain ⟨hlt, hlt11⟩ := hlt
    have hix := sb_ix hlt
    have hb10 := dval_b10 (s := s) (i := i) (by omega)
    have hvs := dval_succ hlt
    have hcs := dcnt_succ hlt
    have hc8 : (s.getD i 0).toNat < 256 := UInt8.toNat_lt _
    generalize s.getD i 0 = c at *
    by_cases hd1 : 48 ≤ c.toNat
    · by_cases hd2 : c.toNat ≤ 57
      · have hd : dgt c = true := by simp only [dgt, decide_eq_true_eq]; omega
        rw [dstep, if_pos hd] at hvs
        rw [if_pos hd] at hcs
        have hz : ((dval (s.take i) : Int) * 10 + ((c.toNat : Int) - 48)) = ((dval (s.take i) * 10 + (c.toNat - 48) : Nat) : Int) := by omega
        have h8 : IntKind.u8.wrap ((c.toNat : Int) - 48) = (c.toNat : Int) - 48 := by rw [IntKind.wrap_u8]; omega
        simp (disch := omega) only [go_sem, hix, h8, hz]
        exact ⟨i + 1, by omega, by omega, Wk.of (by simp only [go_sem, ↓List.forall_mem_cons, List.not_mem_nil, false_implies, implies_true, and_true, true_and, and_self, ri_eq, Int.natCast_add, Int.cast_ofNat_Int, hvs, hcs]; try simp) rfl⟩
      · have hd : dgt c = false := by simp only [dgt, decide_eq_false_iff_not]; omega
        rw [dstep, if_neg (by simp [hd])] at hvs
        rw [if_neg (by simp [hd])] at hcs
        simp (disch := omega) only [go_sem, hix]
        exact ⟨i + 1, by omega, by omega, Wk.of (by simp only [go_sem, ↓List.forall_mem_cons, List.not_mem_nil, false_implies, implies_true, and_true, true_and, and_self, ri_eq, Int.natCast_add, Int.cast_ofNat_Int, hvs, hcs]; try simp) rfl⟩
    · have hd : dgt c = false := by simp only [dgt, decide_eq_false_iff_not]; omega
      rw [dstep, if_neg (by simp [hd])] at hvs
      rw [if_neg (by simp [hd])] at hcs
      simp (disch := omega) only [go_sem, hix]
      exact ⟨i + 1, by omega, by omega, Wk.of (by simp only [go_sem, ↓List.forall_mem_cons, List.not_mem_nil, false_implies, implies_true, and_true, true_and, and_self, ri_eq, Int.natCast_add, Int.cast_ofNat_Int, hvs, hcs]; try simp) rfl⟩
  · have hex : i < s.length → i = 11 := by omega
    by_cases h0 : s = []
    · have hsv : nval s = (dval s : Int) := by subst h0; rfl
      subst h0
      obtain rfl : i = 0 := by simpa using hi
      have hp : pint [] = none := pint_nil
      have hw := Tryz.specFI_ok 0 (by omega) (by omega)
      have he2 : (Lib.itoa 0 == ([] : List UInt8)) = false := by
        rw [Lib.itoa, if_neg (by decide), Lib.decDigits, dif_pos (by decide)]; decide
      simp (disch := omega) only [go_sem, List.take_nil, List.length_nil, show dval [] = 0 from rfl, show dcnt [] = 0 from rfl]
      refine hw.callV 0 (z6 (z8) z7) ?_
      simp (disch := omega) only [go_sem, he2, Bool.not_false]
      exact fin_pI hp rfl rfl
    have hl0 : 0 < s.length := List.length_pos_iff.2 h0
    have hix0 := sb_ix0 hl0
    have hhd : s.head? = some (s.getD 0 0) := by
      cases s with
      | nil => exact absurd rfl h0
      | cons c r => rfl
    by_cases hm : s.getD 0 0 = 45
    · have hsv : nval s = 0 - (dval s : Int) := by rw [nval, if_pos (by rw [hhd, hm])]; omega
      rw [hm] at hix0
      have hm2 : (((45 : UInt8).toNat : Int) == 45) = true := by decide
      by_cases hl10 : 10 < s.length
      · have hp : pint s = none := pint_f (by omega)
        by_cases hls : i < s.length
        · have hi11b := hex hls
          by_cases hk9 : 9 < dcnt (s.take i)
          · simp (disch := omega) only [go_sem, hix0, hm2]
            exact fin_pI hp rfl rfl
          · simp (disch := omega) only [go_sem, hix0, hm2]
            exact fin_pI hp rfl rfl
        · by_cases hk9 : 9 < dcnt (s.take i)
          · simp (disch := omega) only [go_sem, hix0, hm2]
            exact fin_pI hp rfl rfl
          · simp (disch := omega) only [go_sem, hix0, hm2]
            exact fin_pI hp rfl rfl
      obtain rfl : i = s.length := by omega
      rw [List.take_length] at hb11 hc11
      by_cases hk9 : 9 < dcnt s
      · have hp : pint s = none := pint_f (by omega)
        simp (disch := omega) only [go_sem, hix0, hm2, List.take_length]
        exact fin_pI hp rfl rfl
      have hb : dval s < 1000000000 := by
        have h1 := dval_lt s
        have h2 := pow10_le (k := dcnt s) (m := 9) (by omega)
        omega
      have hw := Tryz.specFI_ok (nval s) (by rw [hsv]; omega) (by rw [hsv]; omega)
      rw [hsv] at hw
      by_cases he : Lib.itoa (nval s) = s
      · have hp := pint_t (by omega) (by omega) he
        rw [hsv] at he hp
        simp (disch := omega) only [go_sem, hix0, hm2, List.take_length]
        refine hw.callV 0 (z6 (z8) z7) ?_
        simp (disch := omega) only [go_sem, he, beq_self_eq_true, Bool.not_true]
        exact fin_pI hp (by first | rfl | (simp only [List.take_length]; rfl)) rfl
      · have hp : pint s = none := pint_f (fun h => he h.2.2)
        rw [hsv] at he
        have he2 := beq_eq_false_iff_ne.2 he
        simp (disch := omega) only [go_sem, hix0, hm2, List.take_length]
        refine hw.callV 0 (z6 (z8) z7) ?_
        simp (disch := omega) only [go_sem, he2, Bool.not_false]
        exact fin_pI hp rfl rfl
    · have hsv : nval s = (dval s : Int) := by rw [nval, if_neg (by rw [hhd]; intro h; exact hm (Option.some.inj h))]
      have hm2 : (((s.getD 0 0).toNat : Int) == 45) = false := by
        rw [beq_eq_false_iff_ne]; intro h
        exact hm (UInt8.toNat_inj.1 (by exact_mod_cast h))
      by_cases hl10 : 10 < s.length
      · have hp : pint s = none := pint_f (by omega)
        by_cases hls : i < s.length
        · have hi11b := hex hls
          by_cases hk9 : 9 < dcnt (s.take i)
          · simp (disch := omega) only [go_sem, hix0, hm2]
            exact fin_pI hp rfl rfl
          · simp (disch := omega) only [go_sem, hix0, hm2]
            exact fin_pI hp rfl rfl
        · by_cases hk9 : 9 < dcnt (s.take i)
          · simp (disch := omega) only [go_sem, hix0, hm2]
            exact fin_pI hp rfl rfl
          · simp (disch := omega) only [go_sem, hix0, hm2]
            exact fin_pI hp rfl rfl
      obtain rfl : i = s.length := by omega
      rw [List.take_length] at hb11 hc11
      by_cases hk9 : 9 < dcnt s
      · have hp : pint s = none := pint_f (by omega)
        simp (disch := omega) only [go_sem, hix0, hm2, List.take_length]
        exact fin_pI hp rfl rfl
      have hb : dval s < 1000000000 := by
        have h1 := dval_lt s
        have h2 := pow10_le (k := dcnt s) (m := 9) (by omega)
        omega
      have hw := Tryz.specFI_ok (nval s) (by rw [hsv]; omega) (by rw [hsv]; omega)
      rw [hsv] at hw
      by_cases he : Lib.itoa (nval s) = s
      · have hp := pint_t (by omega) (by omega) he
        rw [hsv] at he hp
        simp (disch := omega) only [go_sem, hix0, hm2, List.take_length]
        refine hw.callV 0 (z6 (z8) z7) ?_
        simp (disch := omega) only [go_sem, he, beq_self_eq_true, Bool.not_true]
        exact fin_pI hp (by first | rfl | (simp only [List.take_length]; rfl)) rfl
      · have hp : pint s = none := pint_f (fun h => he h.2.2)
        rw [hsv] at he
        have he2 := beq_eq_false_iff_ne.2 he
        simp (disch := omega) only [go_sem, hix0, hm2, List.take_length]
        refine hw.callV 0 (z6 (z8) z7) ?_
        simp (disch := omega) only [go_sem, he2, Bool.not_false]
        exact fin_pI hp rfl rfl
set_option maxHeartbeats 4000000 in
theorem Tryz.implPI_ok (s : List UInt8) (hs : s.length ≤ 1048576) : PCall Tryz.prog 126 [str s] (pIR s) := by
  refine FCall.pcall (R := fun r _ => r = pIR s) ?_ 1 (by rintro r H rfl; exact view_pr)
  refine FCall.of_body Tryz.func126 rfl (by kernel_rfl) (by simp [Tryz.ntmps126]) ?_
  refine SW_of_vc Tryz.mixed _ _ _ (by kernel_rfl) ?_
  by_cases hok : ∃ v, Lib.atoiAll s = .ok v
  · obtain ⟨v, hv⟩ := hok
    obtain ⟨v1, v2⟩ := atoiAll_i64 hv
    have wA := Tryz.atoi_t s v hv hs
    have wF := Tryz.implFI_ok v v1 v2
    have wW := Tryz.within_ok v (-999999999) 999999999
    by_cases he : Lib.itoa v = s
    · by_cases hr : -999999999 ≤ v ∧ v ≤ 999999999
      · have hp : pint s = some v := pint_of he hr.1 hr.2
        rw [inR_tt hr.1 hr.2] at wW
        simp (disch := omega) only [go_sem]
        refine wA.callV 0 (z6 zd z7) ?_
        simp (disch := omega) only [go_sem]
        refine wF.callV 0 (z6 (z8) z7) ?_
        simp (disch := omega) only [go_sem, he, beq_self_eq_true, Bool.not_true]
        refine wW.callV 0 (z6 (z8) (z6 (z8) (z6 (z8) z7))) ?_
        simp (disch := omega) only [go_sem]
        exact fin_pI hp rfl rfl
      · have hp : pint s = none := pint_none fun n h1 h2 h3 h4 => hr (by
          rw [hv] at h1
          simp only [Lib.NumEnd.ok.injEq] at h1
          omega)
        have e : inR v (-999999999) 999999999 = false := by
          cases h : inR v (-999999999) 999999999 with
          | false => rfl
          | true => exact absurd (inR_of h) hr
        rw [e] at wW
        simp (disch := omega) only [go_sem]
        refine wA.callV 0 (z6 zd z7) ?_
        simp (disch := omega) only [go_sem]
        refine wF.callV 0 (z6 (z8) z7) ?_
        simp (disch := omega) only [go_sem, he, beq_self_eq_true, Bool.not_true]
        refine wW.callV 0 (z6 (z8) (z6 (z8) (z6 (z8) z7))) ?_
        simp (disch := omega) only [go_sem]
        exact fin_pI hp rfl rfl
    · have hp : pint s = none := pint_none fun n h1 h2 h3 h4 => he (by
        rw [hv] at h1
        simp only [Lib.NumEnd.ok.injEq] at h1
        rw [h1]; exact h2)
      have he2 := beq_eq_false_iff_ne.2 he
      simp (disch := omega) only [go_sem]
      refine wA.callV 0 (z6 zd z7) ?_
      simp (disch := omega) only [go_sem]
      refine wF.callV 0 (z6 (z8) z7) ?_
      simp (disch := omega) only [go_sem, he2, Bool.not_false]
      exact fin_pI hp rfl rfl
  · obtain ⟨x, wA⟩ := Tryz.atoi_n s (fun v hv => hok ⟨v, hv⟩) hs
    have hp : pint s = none := pint_none fun n h1 _ _ _ => hok ⟨n, h1⟩
    simp (disch := omega) only [go_sem]
    refine wA.callV 0 (z6 zd z7) ?_
    simp (disch := omega) only [go_sem]
    exact fin_pI hp rfl rfl
end Go.Sh

/-
  Numbers and phones: contracts.
-/
namespace Go.Sh
open Go Go.Proofs

def dgs (l : List UInt8) : List UInt8 := l.filter isDg
theorem dgs_length (l : List UInt8) : (dgs l).length ≤ l.length := List.length_filter_le _ _
theorem dgs_snoc {l : List UInt8} {k : Nat} (h : k < l.length) : dgs (l.take (k + 1)) = dgs (l.take k) ++ (if isDg (l.getD k 0) = true then [l.getD k 0] else []) := by
  rw [take_at 0 h, dgs, dgs, List.filter_append, List.filter_cons, List.filter_nil]
theorem dgs_le {l : List UInt8} {k : Nat} : (dgs (l.take k)).length ≤ k := by
  have := dgs_length (l.take k); rw [List.length_take] at this; omega
set_option maxHeartbeats 4000000 in
theorem Tryz.specDgs_ok (s : List UInt8) (hs : s.length ≤ 1048576) : PCall Tryz.prog 120 [str s] (str (dgs s)) := by
  refine FCall.pcall (R := fun r _ => r = str (dgs s)) ?_ 0 (by rintro r H rfl; exact zd)
  refine FCall.of_body Tryz.func120 rfl (by kernel_rfl) (by simp [Tryz.ntmps120]) ?_
  refine SW_of_vc Tryz.mixed _ _ _ (by kernel_rfl) ?_
  simp (disch := omega) only [go_sem]
  refine LoopW.loop (fun p : Nat × Nat × Heap => ⟨ofL [(0, str s), (3, .own p.2.1 0 (dgs (s.take p.1)).length (dgs (s.take p.1)).length 1 false), (4, .val (.int .i64 p.1))], p.2.2⟩)
    (fun p => p.1 ≤ s.length ∧ p.2.1 < p.2.2.nb ∧ p.2.2.map p.2.1 = some ⟨u8c (dgs (s.take p.1)), false⟩) (fun p => s.length - p.1) (0, 0, (hp [] 0).push ⟨[], false⟩) ⟨by simp, by show 0 < ((hp [] 0).push _).nb; rw [za]; show 0 < 0 + 1; omega, by show ((hp [] 0).push _).map 0 = _; rw [zb]; rfl⟩
    (Wk.of (by simp only [go_sem, ↓List.forall_mem_cons, List.not_mem_nil, false_implies, implies_true, and_true, true_and, and_self, ri_eq, Int.natCast_add, Int.cast_ofNat_Int, List.take_zero, dgs, List.filter_nil, List.length_nil]; try simp) rfl) ?_
  rintro ⟨i, ob, H⟩ ⟨hi, hob, hm⟩
  simp only at hi hob hm
  have hl := dgs_le (l := s) (k := i)
  refine SW_of_vc Tryz.mixed _ _ _ (by kernel_rfl) ?_
  by_cases hlt : i < s.length
  · have hix := sb_ix hlt
    have hst := dgs_snoc hlt
    have hb := u8arg (s.getD i 0)
    generalize s.getD i 0 = c at *
    generalize dgs (s.take i) = P at *
    generalize hP2 : dgs (s.take (i + 1)) = P2 at *
    have hPs : (u8c P).length = P.length := u8c_length _
    have hPt : (u8c P).take P.length = u8c P := List.take_of_length_le (by omega)
    have hsn := u8c_snoc P c
    cases hd : isDg c with
    | true =>
      have hr := rg_tt hd
      rw [if_pos hd] at hst
      have hl2 : P2.length = P.length + 1 := by rw [hst]; simp
      simp (disch := omega) only [go_sem, hix, hm, hPs, hPt, hsn, ze, zc, zb, za]
      refine ⟨(i + 1, H.nb + 1, _), ⟨hlt, ?_, ?_⟩, by simp only; omega, Wk.of (by simp only [go_sem, ↓List.forall_mem_cons, List.not_mem_nil, false_implies, implies_true, and_true, true_and, and_self, ri_eq, Int.natCast_add, Int.cast_ofNat_Int, hP2, hl2]; try simp) rfl⟩
      · simp only [zc, za]; omega
      · simp only [hP2, hst]
        simp (disch := omega) only [ze, zb, zc, za, if_pos, if_neg, ↓reduceIte]
    | false =>
      rw [if_neg (by simp [hd]), List.append_nil] at hst
      subst hst
      rcases rg_ff hd with hr | hr
      · simp (disch := omega) only [go_sem, hix]
        exact ⟨(i + 1, ob, H), ⟨hlt, hob, by simp only [hP2]; exact hm⟩, by simp only; omega, Wk.of (by simp only [go_sem, ↓List.forall_mem_cons, List.not_mem_nil, false_implies, implies_true, and_true, true_and, and_self, ri_eq, Int.natCast_add, Int.cast_ofNat_Int, hP2]; try simp) rfl⟩
      · simp (disch := omega) only [go_sem, hix]
        exact ⟨(i + 1, ob, H), ⟨hlt, hob, by simp only [hP2]; exact hm⟩, by simp only; omega, Wk.of (by simp only [go_sem, ↓List.forall_mem_cons, List.not_mem_nil, false_implies, implies_true, and_true, true_and, and_self, ri_eq, Int.natCast_add, Int.cast_ofNat_Int, hP2]; try simp) rfl⟩
  · obtain rfl : i = s.length := by omega
    rw [List.take_length] at hm
    have hPs : (u8c (dgs s)).length = (dgs s).length := u8c_length _
    have hPt : (u8c (dgs s)).take (dgs s).length = u8c (dgs s) := List.take_of_length_le (by omega)
    simp (disch := omega) only [go_sem, List.take_length, hm, hPs, hPt]
    exact Fin.val rfl
set_option maxHeartbeats 4000000 in
theorem Tryz.implDgs_ok (s : List UInt8) (hs : s.length ≤ 1048576) : PCall Tryz.prog 147 [str s] (str (dgs s)) := by
  refine FCall.pcall (R := fun r _ => r = str (dgs s)) ?_ 0 (by rintro r H rfl; exact zd)
  refine FCall.of_body Tryz.func147 rfl (by kernel_rfl) (by simp [Tryz.ntmps147]) ?_
  refine SW_of_vc Tryz.mixed _ _ _ (by kernel_rfl) ?_
  simp (disch := omega) only [go_sem]
  refine LoopW.loop (fun p : Nat × Nat × Heap => ⟨ofL [(0, str s), (3, nlG 1 p.2.1 (dgs (s.take p.1)).length), (6, .val (.int .i64 s.length)), (7, .val (.int .i64 p.1))], p.2.2⟩)
    (fun p => p.1 ≤ s.length ∧ ((dgs (s.take p.1)).length ≠ 0 → p.2.1 < p.2.2.nb ∧ p.2.2.map p.2.1 = some ⟨u8c (dgs (s.take p.1)), false⟩)) (fun p => s.length - p.1) (0, 0, hp [] 0) ⟨by simp, fun h => absurd rfl h⟩
    (Wk.of (by simp only [go_sem, ↓List.forall_mem_cons, List.not_mem_nil, false_implies, implies_true, and_true, true_and, and_self, ri_eq, Int.natCast_add, Int.cast_ofNat_Int, List.take_zero, dgs, List.filter_nil, List.length_nil, nlG_0]; try simp) rfl) ?_
  rintro ⟨i, ob, H⟩ ⟨hi, hml⟩
  simp only at hi hml
  have hl := dgs_le (l := s) (k := i)
  refine SW_of_vc Tryz.mixed _ _ _ (by kernel_rfl) ?_
  by_cases hlt : i < s.length
  · have hix := sb_ix hlt
    have hst := dgs_snoc hlt
    have hb := u8arg (s.getD i 0)
    have wd := Tryz.isDigit_ok (s.getD i 0)
    generalize s.getD i 0 = c at *
    generalize dgs (s.take i) = P at *
    generalize hP2 : dgs (s.take (i + 1)) = P2 at *
    have hPs : (u8c P).length = P.length := u8c_length _
    have hPt : (u8c P).take P.length = u8c P := List.take_of_length_le (by omega)
    have hsn := u8c_snoc P c
    cases hd : isDg c with
    | true =>
      rw [hd] at wd
      rw [if_pos hd] at hst
      have hl2 : P2.length = P.length + 1 := by rw [hst]; simp
      have e2 := nlG_f (z := 1) (b := H.nb + 1) (n := P2.length) (by omega)
      by_cases h0 : P.length = 0
      · have e0 := nlG_t (z := 1) (b := ob) h0
        have h2 : P2 = [c] := by rw [hst, List.length_eq_zero_iff.1 h0]; rfl
        have hl3 : P2.length = 1 := by omega
        rw [hl3] at e2
        simp (disch := omega) only [go_sem, hix, e0, ze, zc, zb, za]
        refine wd.callV 0 (z6 (z8) z7) ?_
        simp (disch := omega) only [go_sem, hix, e0, ze, zc, zb, za]
        refine ⟨(i + 1, H.nb + 1, _), ⟨hlt, fun _ => ⟨?_, ?_⟩⟩, by simp only; omega, Wk.of (by simp only [go_sem, ↓List.forall_mem_cons, List.not_mem_nil, false_implies, implies_true, and_true, true_and, and_self, ri_eq, Int.natCast_add, Int.cast_ofNat_Int, hP2, hl3, e2]; try simp) rfl⟩
        · simp only [zc, za]; omega
        · simp only [hP2, h2]
          simp (disch := omega) only [ze, zb, zc, za, if_pos, if_neg, ↓reduceIte]
          rfl
      · have e0 := nlG_f (z := 1) (b := ob) h0
        obtain ⟨m1, m2⟩ := hml h0
        rw [hl2] at e2
        simp (disch := omega) only [go_sem, hix, e0, m2, hPs, hPt, hsn, ze, zc, zb, za]
        refine wd.callV 0 (z6 (z8) z7) ?_
        simp (disch := omega) only [go_sem, hix, e0, m2, hPs, hPt, hsn, ze, zc, zb, za]
        refine ⟨(i + 1, H.nb + 1, _), ⟨hlt, fun _ => ⟨?_, ?_⟩⟩, by simp only; omega, Wk.of (by simp only [go_sem, ↓List.forall_mem_cons, List.not_mem_nil, false_implies, implies_true, and_true, true_and, and_self, ri_eq, Int.natCast_add, Int.cast_ofNat_Int, hP2, hl2, e2]; try simp) rfl⟩
        · simp only [zc, za]; omega
        · simp only [hP2, hst]
          simp (disch := omega) only [ze, zb, zc, za, if_pos, if_neg, ↓reduceIte]
    | false =>
      rw [hd] at wd
      rw [if_neg (by simp [hd]), List.append_nil] at hst
      subst hst
      simp (disch := omega) only [go_sem, hix]
      refine wd.callV 0 (z6 (z8) z7) ?_
      simp (disch := omega) only [go_sem, hix]
      exact ⟨(i + 1, ob, H), ⟨hlt, by simp only [hP2]; exact hml⟩, by simp only; omega, Wk.of (by simp only [go_sem, ↓List.forall_mem_cons, List.not_mem_nil, false_implies, implies_true, and_true, true_and, and_self, ri_eq, Int.natCast_add, Int.cast_ofNat_Int, hP2]; try simp) rfl⟩
  · obtain rfl : i = s.length := by omega
    rw [List.take_length] at hml
    generalize hoo : dgs s = P at *
    have hPs : (u8c P).length = P.length := u8c_length _
    have hPt : (u8c P).take P.length = u8c P := List.take_of_length_le (by omega)
    by_cases h0 : P.length = 0
    · have e0 := nlG_t (z := 1) (b := ob) h0
      have h1 := List.length_eq_zero_iff.1 h0
      simp (disch := omega) only [go_sem, List.take_length, hoo, e0]
      exact Fin.val (by rw [h1])
    · have e0 := nlG_f (z := 1) (b := ob) h0
      obtain ⟨m1, m2⟩ := hml h0
      simp (disch := omega) only [go_sem, List.take_length, hoo, e0, m2, hPs, hPt]
      exact Fin.val rfl
def yr (s : List UInt8) : Int := match pint s with | some n => if inR n 1000 9999 = true then n else 0 | none => 0
theorem yr_b (s : List UInt8) : yr s = 0 ∨ (1000 ≤ yr s ∧ yr s ≤ 9999) := by
  unfold yr
  split
  · split
    · rename_i h; exact .inr (inR_of h)
    · exact .inl rfl
  · exact .inl rfl
theorem Tryz.specYr_ok (s : List UInt8) (hs : s.length ≤ 1048576) : PCall Tryz.prog 71 [str s] (.val (.int .i64 (yr s))) := by
  refine FCall.pcall (R := fun r _ => r = .val (.int .i64 (yr s))) ?_ 0 (by rintro r H rfl; exact z8)
  have w := Tryz.specPI_ok s hs
  refine FCall.of_body Tryz.func71 rfl (by kernel_rfl) (by simp [Tryz.ntmps71]) ?_
  refine SW_of_vc Tryz.mixed _ _ _ (by kernel_rfl) ?_
  unfold pIR at w
  unfold yr
  cases hp : pint s with
  | none =>
    rw [hp] at w
    simp (disch := omega) only [go_sem]
    refine w.callV 0 (z6 zd z7) ?_
    simp (disch := omega) only [go_sem]
    exact Fin.val rfl
  | some n =>
    rw [hp] at w
    have w2 := Tryz.l1In_ok n 1000 9999
    cases h1 : inR n 1000 9999 with
    | true =>
      rw [h1] at w2
      simp (disch := omega) only [go_sem]
      refine w.callV 0 (z6 zd z7) ?_
      simp (disch := omega) only [go_sem]
      refine w2.callV 0 (z6 (z8) (z6 (z8) (z6 (z8) z7))) ?_
      simp (disch := omega) only [go_sem]
      exact Fin.val (by simp [h1])
    | false =>
      rw [h1] at w2
      simp (disch := omega) only [go_sem]
      refine w.callV 0 (z6 zd z7) ?_
      simp (disch := omega) only [go_sem]
      refine w2.callV 0 (z6 (z8) (z6 (z8) (z6 (z8) z7))) ?_
      simp (disch := omega) only [go_sem]
      exact Fin.val (by simp [h1])
theorem Tryz.implYr_ok (s : List UInt8) (hs : s.length ≤ 1048576) : PCall Tryz.prog 145 [str s] (.val (.int .i64 (yr s))) := by
  refine FCall.pcall (R := fun r _ => r = .val (.int .i64 (yr s))) ?_ 0 (by rintro r H rfl; exact z8)
  have w := Tryz.implPI_ok s hs
  refine FCall.of_body Tryz.func145 rfl (by kernel_rfl) (by simp [Tryz.ntmps145]) ?_
  refine SW_of_vc Tryz.mixed _ _ _ (by kernel_rfl) ?_
  unfold pIR at w
  unfold yr
  cases hp : pint s with
  | none =>
    rw [hp] at w
    simp (disch := omega) only [go_sem]
    refine w.callV 0 (z6 zd z7) ?_
    simp (disch := omega) only [go_sem]
    exact Fin.val rfl
  | some n =>
    rw [hp] at w
    have w2 := Tryz.within_ok n 1000 9999
    cases h1 : inR n 1000 9999 with
    | true =>
      rw [h1] at w2
      simp (disch := omega) only [go_sem]
      refine w.callV 0 (z6 zd z7) ?_
      simp (disch := omega) only [go_sem]
      refine w2.callV 0 (z6 (z8) (z6 (z8) (z6 (z8) z7))) ?_
      simp (disch := omega) only [go_sem]
      exact Fin.val (by simp [h1])
    | false =>
      rw [h1] at w2
      simp (disch := omega) only [go_sem]
      refine w.callV 0 (z6 zd z7) ?_
      simp (disch := omega) only [go_sem]
      refine w2.callV 0 (z6 (z8) (z6 (z8) (z6 (z8) z7))) ?_
      simp (disch := omega) only [go_sem]
      exact Fin.val (by simp [h1])
end Go.Sh

/-
  Phones and years compared: contracts.
-/
namespace Go.Sh
open Go Go.Proofs

def cpl : List UInt8 → List UInt8 → Nat
  | a :: x, b :: y => if a = b then cpl x y + 1 else 0
  | _, _ => 0
def csl (x y : List UInt8) : Nat := cpl x.reverse y.reverse
theorem cpl_at : ∀ {r t : List UInt8} {n : Nat}, n ≤ r.length → n ≤ t.length → (∀ k, k < n → r.getD k 0 = t.getD k 0) → (n = r.length ∨ n = t.length ∨ r.getD n 0 ≠ t.getD n 0) → cpl r t = n
  | [], t, n, h1, _, _, _ => by
    have : n = 0 := by simpa using h1
    subst this; cases t <;> rfl
  | a :: r, [], n, _, h2, _, _ => by
    have : n = 0 := by simpa using h2
    subst this; rfl
  | a :: r, b :: t, 0, _, _, _, h => by
    rcases h with h | h | h
    · simp at h
    · simp at h
    · have h : a ≠ b := by simpa using h
      rw [cpl, if_neg h]
  | a :: r, b :: t, n + 1, h1, h2, h3, h4 => by
    have h0 : a = b := by simpa using h3 0 (by omega)
    rw [cpl, if_pos h0, cpl_at (n := n) (by simpa using h1) (by simpa using h2) (fun k hk => by simpa using h3 (k + 1) (by omega)) (by
      rcases h4 with h | h | h
      · exact .inl (by simpa using h)
      · exact .inr (.inl (by simpa using h))
      · exact .inr (.inr (by simpa using h)))]
theorem cpl_pre : ∀ (r t : List UInt8), (cpl r t = t.length) ↔ t.isPrefixOf r = true
  | [], [] => by simp [cpl]
  | [], b :: t => by simp [cpl]
  | a :: r, [] => by simp [cpl]
  | a :: r, b :: t => by
    have ih := cpl_pre r t
    rw [cpl]
    by_cases h : a = b
    · subst h
      simp only [↓reduceIte, List.length_cons, Nat.add_right_cancel_iff, List.isPrefixOf, beq_self_eq_true, Bool.true_and]
      exact ih
    · have : (b == a) = false := beq_eq_false_iff_ne.2 fun e => h e.symm
      rw [if_neg h]; simp only [List.isPrefixOf, this, Bool.false_and, Bool.false_eq_true, iff_false, List.length_cons]; omega
theorem cpl_symm : ∀ (r t : List UInt8), cpl r t = cpl t r
  | [], [] => rfl
  | [], b :: t => rfl
  | a :: r, [] => rfl
  | a :: r, b :: t => by
    rw [cpl, cpl, cpl_symm r t]
    by_cases h : a = b
    · rw [if_pos h, if_pos h.symm]
    · rw [if_neg h, if_neg fun e => h e.symm]
theorem suf_y (x y : List UInt8) : Lib.hasSuffix x y = decide (csl x y = y.length) := by
  rw [Bool.eq_iff_iff, decide_eq_true_iff, csl]
  have := cpl_pre x.reverse y.reverse
  rw [List.length_reverse] at this
  rw [this]; rfl
theorem suf_x (x y : List UInt8) : Lib.hasSuffix y x = decide (csl x y = x.length) := by
  rw [suf_y y x, csl, csl, cpl_symm]
theorem eq_len {x y : List UInt8} : (x == y) = (decide (csl x y = x.length) && decide (csl x y = y.length)) := by
  rw [Bool.eq_iff_iff]
  simp only [beq_iff_eq, Bool.and_eq_true, decide_eq_true_eq]
  constructor
  · rintro rfl
    have : csl x x = x.length := by
      have := (cpl_pre x.reverse x.reverse).2 (by simp)
      simpa [csl] using this
    exact ⟨this, this⟩
  · rintro ⟨h1, h2⟩
    have h3 := suf_y x y
    rw [decide_eq_true h2, Lib.hasSuffix, List.isSuffixOf_iff_suffix] at h3
    exact (h3.eq_of_length (by omega)).symm
theorem csl_at {x y : List UInt8} {n : Nat} (h1 : n ≤ x.length) (h2 : n ≤ y.length) (h3 : ∀ k, k < n → x.getD (x.length - 1 - k) 0 = y.getD (y.length - 1 - k) 0)
    (h4 : n = x.length ∨ n = y.length ∨ x.getD (x.length - 1 - n) 0 ≠ y.getD (y.length - 1 - n) 0) : csl x y = n := by
  have hr : ∀ (l : List UInt8) k, k < l.length → l.reverse.getD k 0 = l.getD (l.length - 1 - k) 0 := fun l k hk => by
    simp [List.getD, List.getElem?_reverse hk]
  refine cpl_at (by simpa using h1) (by simpa using h2) (fun k hk => ?_) ?_
  · rw [hr x k (by omega), hr y k (by omega)]; exact h3 k hk
  · rcases h4 with h | h | h
    · exact .inl (by simpa using h)
    · exact .inr (.inl (by simpa using h))
    · by_cases hx : n = x.length
      · exact .inl (by simpa using hx)
      · by_cases hy : n = y.length
        · exact .inr (.inl (by simpa using hy))
        · exact .inr (.inr (by rw [hr x n (by omega), hr y n (by omega)]; exact h))
def phd (x y : List UInt8) : Int :=
  if x.length < 4 ∨ y.length < 4 ∨ csl x y < 4 then 0 else if csl x y = x.length ∧ csl x y = y.length then 1000 else if 7 ≤ csl x y ∨ csl x y = x.length ∨ csl x y = y.length then 800 else 400
def phs (a b : List UInt8) : Int := phd (dgs a) (dgs b)
set_option maxHeartbeats 16000000 in
theorem Tryz.specPh_ok (a b : List UInt8) (ha : a.length ≤ 1048576) (hb : b.length ≤ 1048576) : PCall Tryz.prog 70 [str a, str b] (.val (.int .i64 (phs a b))) := by
  refine FCall.pcall (R := fun r _ => r = .val (.int .i64 (phs a b))) ?_ 0 (by rintro r H rfl; exact z8)
  have w1 := Tryz.specDgs_ok a ha
  have w2 := Tryz.specDgs_ok b hb
  have l1 := dgs_length a
  have l2 := dgs_length b
  refine FCall.of_body Tryz.func70 rfl (by kernel_rfl) (by simp [Tryz.ntmps70]) ?_
  refine SW_of_vc Tryz.mixed _ _ _ (by kernel_rfl) ?_
  unfold phs
  generalize dgs a = x at *
  generalize dgs b = y at *
  simp (disch := omega) only [go_sem]
  refine w1.callV 0 (z6 zd z7) ?_
  simp (disch := omega) only [go_sem]
  refine w2.callV 0 (z6 zd z7) ?_
  simp (disch := omega) only [go_sem]
  refine LoopW.loop (fun n : Nat => ⟨ofL [(5, str x), (6, str y), (7, .val (.int .i64 n))], hp [] 0⟩) (fun n => n ≤ x.length ∧ n ≤ y.length ∧ ∀ k, k < n → x.getD (x.length - 1 - k) 0 = y.getD (y.length - 1 - k) 0) (fun n => x.length - n) 0 ⟨by omega, by omega, fun k h => by omega⟩ (Wk.of (by simp only [go_sem, ↓List.forall_mem_cons, List.not_mem_nil, false_implies, implies_true, and_true, true_and, and_self, ri_eq, Int.natCast_add, Int.cast_ofNat_Int]; try simp) rfl) ?_
  rintro n ⟨h1, h2, h3⟩
  have stop : ∀ _ : (n = x.length ∨ n = y.length ∨ x.getD (x.length - 1 - n) 0 ≠ y.getD (y.length - 1 - n) 0), phd x y = if x.length < 4 ∨ y.length < 4 ∨ n < 4 then 0 else if n = x.length ∧ n = y.length then 1000 else if 7 ≤ n ∨ n = x.length ∨ n = y.length then 800 else 400 := fun h => by
    rw [phd, csl_at h1 h2 h3 h]
  refine SW_of_vc Tryz.mixed _ _ _ (by kernel_rfl) ?_
  by_cases hx : n < x.length
  · have hm1 : ∃ m1 : Nat, m1 = x.length - 1 - n := ⟨_, rfl⟩
    obtain ⟨m1, hm1⟩ := hm1
    have c1 : (x.length : Int) - 1 - (n : Int) = (m1 : Int) := by omega
    have i1 := sb_ix (s := x) (i := m1) (by omega)
    by_cases hy : n < y.length
    · obtain ⟨m2, hm2⟩ : ∃ m2 : Nat, m2 = y.length - 1 - n := ⟨_, rfl⟩
      have c2 : (y.length : Int) - 1 - (n : Int) = (m2 : Int) := by omega
      have i2 := sb_ix (s := y) (i := m2) (by omega)
      by_cases he : x.getD m1 0 = y.getD m2 0
      · have e1 := u8_eq he
        simp (disch := omega) only [go_sem, c1, i1, c2, i2, e1]
        refine ⟨n + 1, ⟨hx, hy, fun k hk => ?_⟩, by omega, Wk.of (by simp only [go_sem, ↓List.forall_mem_cons, List.not_mem_nil, false_implies, implies_true, and_true, true_and, and_self, ri_eq, Int.natCast_add, Int.cast_ofNat_Int]; try simp) rfl⟩
        rcases Nat.lt_succ_iff_lt_or_eq.1 hk with g | g
        · exact h3 k g
        · rw [g, ← hm1, ← hm2]; exact he
      · have e1 := u8_ne he
        have hend : n = x.length ∨ n = y.length ∨ x.getD (x.length - 1 - n) 0 ≠ y.getD (y.length - 1 - n) 0 := .inr (.inr (by rw [← hm1, ← hm2]; exact he))
        have hstop := stop hend
        by_cases t1 : x.length < 4
        · first | (exfalso; omega) | (simp (disch := omega) only [go_sem, c1, i1, c2, i2, e1]; exact Fin.val (by rw [hstop]; simp only [SV.val.injEq, Value.int.injEq, true_and]; rw [if_pos (.inl t1)]))
        by_cases t2 : y.length < 4
        · first | (exfalso; omega) | (simp (disch := omega) only [go_sem, c1, i1, c2, i2, e1]; exact Fin.val (by rw [hstop]; simp only [SV.val.injEq, Value.int.injEq, true_and]; rw [if_pos (.inr (.inl t2))]))
        by_cases t3 : n < 4
        · first | (exfalso; omega) | (simp (disch := omega) only [go_sem, c1, i1, c2, i2, e1]; exact Fin.val (by rw [hstop]; simp only [SV.val.injEq, Value.int.injEq, true_and]; rw [if_pos (.inr (.inr t3))]))
        have t4 : ¬ (x.length < 4 ∨ y.length < 4 ∨ n < 4) := by omega
        have ex1 : ∀ h : n = x.length, ((n : Int) == (x.length : Int)) = true := fun h => by rw [h]; exact beq_self_eq_true _
        have ex0 : ∀ h : n ≠ x.length, ((n : Int) == (x.length : Int)) = false := fun h => by rw [beq_eq_false_iff_ne]; omega
        have ey1 : ∀ h : n = y.length, ((n : Int) == (y.length : Int)) = true := fun h => by rw [h]; exact beq_self_eq_true _
        have ey0 : ∀ h : n ≠ y.length, ((n : Int) == (y.length : Int)) = false := fun h => by rw [beq_eq_false_iff_ne]; omega
        by_cases u1 : n = x.length
        · by_cases u2 : n = y.length
          · have v1 := ex1 u1
            have v2 := ey1 u2
            first | (exfalso; omega) | (simp (disch := omega) only [go_sem, c1, i1, c2, i2, e1, v1, v2]; exact Fin.val (by rw [hstop]; simp only [SV.val.injEq, Value.int.injEq, true_and]; rw [if_neg t4, if_pos ⟨u1, u2⟩]))
          · have v1 := ex1 u1
            have v2 := ey0 u2
            have t5 : ¬ (n = x.length ∧ n = y.length) := by omega
            by_cases u3 : 7 ≤ n
            · first | (exfalso; omega) | (simp (disch := omega) only [go_sem, c1, i1, c2, i2, e1, v1, v2]; exact Fin.val (by rw [hstop]; simp only [SV.val.injEq, Value.int.injEq, true_and]; rw [if_neg t4, if_neg t5, if_pos (.inl u3)]))
            · first | (exfalso; omega) | (simp (disch := omega) only [go_sem, c1, i1, c2, i2, e1, v1, v2]; exact Fin.val (by rw [hstop]; simp only [SV.val.injEq, Value.int.injEq, true_and]; rw [if_neg t4, if_neg t5, if_pos (by omega)]))
        · by_cases u2 : n = y.length
          · have v1 := ex0 u1
            have v2 := ey1 u2
            have t5 : ¬ (n = x.length ∧ n = y.length) := by omega
            by_cases u3 : 7 ≤ n
            · first | (exfalso; omega) | (simp (disch := omega) only [go_sem, c1, i1, c2, i2, e1, v1, v2]; exact Fin.val (by rw [hstop]; simp only [SV.val.injEq, Value.int.injEq, true_and]; rw [if_neg t4, if_neg t5, if_pos (.inl u3)]))
            · first | (exfalso; omega) | (simp (disch := omega) only [go_sem, c1, i1, c2, i2, e1, v1, v2]; exact Fin.val (by rw [hstop]; simp only [SV.val.injEq, Value.int.injEq, true_and]; rw [if_neg t4, if_neg t5, if_pos (by omega)]))
          · have v1 := ex0 u1
            have v2 := ey0 u2
            have t5 : ¬ (n = x.length ∧ n = y.length) := by omega
            by_cases u3 : 7 ≤ n
            · first | (exfalso; omega) | (simp (disch := omega) only [go_sem, c1, i1, c2, i2, e1, v1, v2]; exact Fin.val (by rw [hstop]; simp only [SV.val.injEq, Value.int.injEq, true_and]; rw [if_neg t4, if_neg t5, if_pos (.inl u3)]))
            · first | (exfalso; omega) | (simp (disch := omega) only [go_sem, c1, i1, c2, i2, e1, v1, v2]; exact Fin.val (by rw [hstop]; simp only [SV.val.injEq, Value.int.injEq, true_and]; rw [if_neg t4, if_neg t5, if_neg (by omega)]))
    · have hend : n = x.length ∨ n = y.length ∨ x.getD (x.length - 1 - n) 0 ≠ y.getD (y.length - 1 - n) 0 := .inr (.inl (by omega))
      have hstop := stop hend
      by_cases t1 : x.length < 4
      · first | (exfalso; omega) | (simp (disch := omega) only [go_sem, List.length_nil]; exact Fin.val (by rw [hstop]; simp only [SV.val.injEq, Value.int.injEq, true_and]; rw [if_pos (.inl t1)]))
      by_cases t2 : y.length < 4
      · first | (exfalso; omega) | (simp (disch := omega) only [go_sem, List.length_nil]; exact Fin.val (by rw [hstop]; simp only [SV.val.injEq, Value.int.injEq, true_and]; rw [if_pos (.inr (.inl t2))]))
      by_cases t3 : n < 4
      · first | (exfalso; omega) | (simp (disch := omega) only [go_sem, List.length_nil]; exact Fin.val (by rw [hstop]; simp only [SV.val.injEq, Value.int.injEq, true_and]; rw [if_pos (.inr (.inr t3))]))
      have t4 : ¬ (x.length < 4 ∨ y.length < 4 ∨ n < 4) := by omega
      have ex1 : ∀ h : n = x.length, ((n : Int) == (x.length : Int)) = true := fun h => by rw [h]; exact beq_self_eq_true _
      have ex0 : ∀ h : n ≠ x.length, ((n : Int) == (x.length : Int)) = false := fun h => by rw [beq_eq_false_iff_ne]; omega
      have ey1 : ∀ h : n = y.length, ((n : Int) == (y.length : Int)) = true := fun h => by rw [h]; exact beq_self_eq_true _
      have ey0 : ∀ h : n ≠ y.length, ((n : Int) == (y.length : Int)) = false := fun h => by rw [beq_eq_false_iff_ne]; omega
      by_cases u1 : n = x.length
      · by_cases u2 : n = y.length
        · have v1 := ex1 u1
          have v2 := ey1 u2
          first | (exfalso; omega) | (simp (disch := omega) only [go_sem, v1, v2]; exact Fin.val (by rw [hstop]; simp only [SV.val.injEq, Value.int.injEq, true_and]; rw [if_neg t4, if_pos ⟨u1, u2⟩]))
        · have v1 := ex1 u1
          have v2 := ey0 u2
          have t5 : ¬ (n = x.length ∧ n = y.length) := by omega
          by_cases u3 : 7 ≤ n
          · first | (exfalso; omega) | (simp (disch := omega) only [go_sem, v1, v2]; exact Fin.val (by rw [hstop]; simp only [SV.val.injEq, Value.int.injEq, true_and]; rw [if_neg t4, if_neg t5, if_pos (.inl u3)]))
          · first | (exfalso; omega) | (simp (disch := omega) only [go_sem, v1, v2]; exact Fin.val (by rw [hstop]; simp only [SV.val.injEq, Value.int.injEq, true_and]; rw [if_neg t4, if_neg t5, if_pos (by omega)]))
      · by_cases u2 : n = y.length
        · have v1 := ex0 u1
          have v2 := ey1 u2
          have t5 : ¬ (n = x.length ∧ n = y.length) := by omega
          by_cases u3 : 7 ≤ n
          · first | (exfalso; omega) | (simp (disch := omega) only [go_sem, v1, v2]; exact Fin.val (by rw [hstop]; simp only [SV.val.injEq, Value.int.injEq, true_and]; rw [if_neg t4, if_neg t5, if_pos (.inl u3)]))
          · first | (exfalso; omega) | (simp (disch := omega) only [go_sem, v1, v2]; exact Fin.val (by rw [hstop]; simp only [SV.val.injEq, Value.int.injEq, true_and]; rw [if_neg t4, if_neg t5, if_pos (by omega)]))
        · have v1 := ex0 u1
          have v2 := ey0 u2
          have t5 : ¬ (n = x.length ∧ n = y.length) := by omega
          by_cases u3 : 7 ≤ n
          · first | (exfalso; omega) | (simp (disch := omega) only [go_sem, v1, v2]; exact Fin.val (by rw [hstop]; simp only [SV.val.injEq, Value.int.injEq, true_and]; rw [if_neg t4, if_neg t5, if_pos (.inl u3)]))
          · first | (exfalso; omega) | (simp (disch := omega) only [go_sem, v1, v2]; exact Fin.val (by rw [hstop]; simp only [SV.val.injEq, Value.int.injEq, true_and]; rw [if_neg t4, if_neg t5, if_neg (by omega)]))
  · have hend : n = x.length ∨ n = y.length ∨ x.getD (x.length - 1 - n) 0 ≠ y.getD (y.length - 1 - n) 0 := .inl (by omega)
    have hstop := stop hend
    by_cases t1 : x.length < 4
    · first | (exfalso; omega) | (simp (disch := omega) only [go_sem, List.length_nil]; exact Fin.val (by rw [hstop]; simp only [SV.val.injEq, Value.int.injEq, true_and]; rw [if_pos (.inl t1)]))
    by_cases t2 : y.length < 4
    · first | (exfalso; omega) | (simp (disch := omega) only [go_sem, List.length_nil]; exact Fin.val (by rw [hstop]; simp only [SV.val.injEq, Value.int.injEq, true_and]; rw [if_pos (.inr (.inl t2))]))
    by_cases t3 : n < 4
    · first | (exfalso; omega) | (simp (disch := omega) only [go_sem, List.length_nil]; exact Fin.val (by rw [hstop]; simp only [SV.val.injEq, Value.int.injEq, true_and]; rw [if_pos (.inr (.inr t3))]))
    have t4 : ¬ (x.length < 4 ∨ y.length < 4 ∨ n < 4) := by omega
    have ex1 : ∀ h : n = x.length, ((n : Int) == (x.length : Int)) = true := fun h => by rw [h]; exact beq_self_eq_true _
    have ex0 : ∀ h : n ≠ x.length, ((n : Int) == (x.length : Int)) = false := fun h => by rw [beq_eq_false_iff_ne]; omega
    have ey1 : ∀ h : n = y.length, ((n : Int) == (y.length : Int)) = true := fun h => by rw [h]; exact beq_self_eq_true _
    have ey0 : ∀ h : n ≠ y.length, ((n : Int) == (y.length : Int)) = false := fun h => by rw [beq_eq_false_iff_ne]; omega
    by_cases u1 : n = x.length
    · by_cases u2 : n = y.length
      · have v1 := ex1 u1
        have v2 := ey1 u2
        first | (exfalso; omega) | (simp (disch := omega) only [go_sem, v1, v2]; exact Fin.val (by rw [hstop]; simp only [SV.val.injEq, Value.int.injEq, true_and]; rw [if_neg t4, if_pos ⟨u1, u2⟩]))
      · have v1 := ex1 u1
        have v2 := ey0 u2
        have t5 : ¬ (n = x.length ∧ n = y.length) := by omega
        by_cases u3 : 7 ≤ n
        · first | (exfalso; omega) | (simp (disch := omega) only [go_sem, v1, v2]; exact Fin.val (by rw [hstop]; simp only [SV.val.injEq, Value.int.injEq, true_and]; rw [if_neg t4, if_neg t5, if_pos (.inl u3)]))
        · first | (exfalso; omega) | (simp (disch := omega) only [go_sem, v1, v2]; exact Fin.val (by rw [hstop]; simp only [SV.val.injEq, Value.int.injEq, true_and]; rw [if_neg t4, if_neg t5, if_pos (by omega)]))
    · by_cases u2 : n = y.length
      · have v1 := ex0 u1
        have v2 := ey1 u2
        have t5 : ¬ (n = x.length ∧ n = y.length) := by omega
        by_cases u3 : 7 ≤ n
        · first | (exfalso; omega) | (simp (disch := omega) only [go_sem, v1, v2]; exact Fin.val (by rw [hstop]; simp only [SV.val.injEq, Value.int.injEq, true_and]; rw [if_neg t4, if_neg t5, if_pos (.inl u3)]))
        · first | (exfalso; omega) | (simp (disch := omega) only [go_sem, v1, v2]; exact Fin.val (by rw [hstop]; simp only [SV.val.injEq, Value.int.injEq, true_and]; rw [if_neg t4, if_neg t5, if_pos (by omega)]))
      · have v1 := ex0 u1
        have v2 := ey0 u2
        have t5 : ¬ (n = x.length ∧ n = y.length) := by omega
        by_cases u3 : 7 ≤ n
        · first | (exfalso; omega) | (simp (disch := omega) only [go_sem, v1, v2]; exact Fin.val (by rw [hstop]; simp only [SV.val.injEq, Value.int.injEq, true_and]; rw [if_neg t4, if_neg t5, if_pos (.inl u3)]))
        · first | (exfalso; omega) | (simp (disch := omega) only [go_sem, v1, v2]; exact Fin.val (by rw [hstop]; simp only [SV.val.injEq, Value.int.injEq, true_and]; rw [if_neg t4, if_neg t5, if_neg (by omega)]))
set_option maxHeartbeats 16000000 in
theorem Tryz.implPh_ok (a b : List UInt8) (ha : a.length ≤ 1048576) (hb : b.length ≤ 1048576) : PCall Tryz.prog 99 [str a, str b] (.val (.int .i64 (phs a b))) := by
  refine FCall.pcall (R := fun r _ => r = .val (.int .i64 (phs a b))) ?_ 0 (by rintro r H rfl; exact z8)
  have w1 := Tryz.implDgs_ok a ha
  have w2 := Tryz.implDgs_ok b hb
  have l1 := dgs_length a
  have l2 := dgs_length b
  refine FCall.of_body Tryz.func99 rfl (by kernel_rfl) (by simp [Tryz.ntmps99]) ?_
  refine SW_of_vc Tryz.mixed _ _ _ (by kernel_rfl) ?_
  unfold phs
  generalize dgs a = x at *
  generalize dgs b = y at *
  simp (disch := omega) only [go_sem]
  refine w1.callV 0 (z6 zd z7) ?_
  simp (disch := omega) only [go_sem]
  refine w2.callV 0 (z6 zd z7) ?_
  simp (disch := omega) only [go_sem]
  refine LoopW.loop (fun n : Nat => ⟨ofL [(5, str x), (6, str y), (7, .val (.int .i64 n))], hp [] 0⟩) (fun n => n ≤ x.length ∧ n ≤ y.length ∧ ∀ k, k < n → x.getD (x.length - 1 - k) 0 = y.getD (y.length - 1 - k) 0) (fun n => x.length - n) 0 ⟨by omega, by omega, fun k h => by omega⟩ (Wk.of (by simp only [go_sem, ↓List.forall_mem_cons, List.not_mem_nil, false_implies, implies_true, and_true, true_and, and_self, ri_eq, Int.natCast_add, Int.cast_ofNat_Int]; try simp) rfl) ?_
  rintro n ⟨h1, h2, h3⟩
  have stop : ∀ _ : (n = x.length ∨ n = y.length ∨ x.getD (x.length - 1 - n) 0 ≠ y.getD (y.length - 1 - n) 0), phd x y = if x.length < 4 ∨ y.length < 4 ∨ n < 4 then 0 else if n = x.length ∧ n = y.length then 1000 else if 7 ≤ n ∨ n = x.length ∨ n = y.length then 800 else 400 := fun h => by
    rw [phd, csl_at h1 h2 h3 h]
  refine SW_of_vc Tryz.mixed _ _ _ (by kernel_rfl) ?_
  by_cases hx : n < x.length
  · have hm1 : ∃ m1 : Nat, m1 = x.length - 1 - n := ⟨_, rfl⟩
    obtain ⟨m1, hm1⟩ := hm1
    have c1 : (x.length : Int) - 1 - (n : Int) = (m1 : Int) := by omega
    have i1 := sb_ix (s := x) (i := m1) (by omega)
    by_cases hy : n < y.length
    · obtain ⟨m2, hm2⟩ : ∃ m2 : Nat, m2 = y.length - 1 - n := ⟨_, rfl⟩
      have c2 : (y.length : Int) - 1 - (n : Int) = (m2 : Int) := by omega
      have i2 := sb_ix (s := y) (i := m2) (by omega)
      by_cases he : x.getD m1 0 = y.getD m2 0
      · have e1 := u8_eq he
        simp (disch := omega) only [go_sem, c1, i1, c2, i2, e1]
        refine ⟨n + 1, ⟨hx, hy, fun k hk => ?_⟩, by omega, Wk.of (by simp only [go_sem, ↓List.forall_mem_cons, List.not_mem_nil, false_implies, implies_true, and_true, true_and, and_self, ri_eq, Int.natCast_add, Int.cast_ofNat_Int]; try simp) rfl⟩
        rcases Nat.lt_succ_iff_lt_or_eq.1 hk with g | g
        · exact h3 k g
        · rw [g, ← hm1, ← hm2]; exact he
      · have e1 := u8_ne he
        have hend : n = x.length ∨ n = y.length ∨ x.getD (x.length - 1 - n) 0 ≠ y.getD (y.length - 1 - n) 0 := .inr (.inr (by rw [← hm1, ← hm2]; exact he))
        have hstop := stop hend
        by_cases t1 : x.length < 4
        · first | (exfalso; omega) | (simp (disch := omega) only [go_sem, c1, i1, c2, i2, e1]; exact Fin.val (by rw [hstop]; simp only [SV.val.injEq, Value.int.injEq, true_and]; rw [if_pos (.inl t1)]))
        by_cases t2 : y.length < 4
        · first | (exfalso; omega) | (simp (disch := omega) only [go_sem, c1, i1, c2, i2, e1]; exact Fin.val (by rw [hstop]; simp only [SV.val.injEq, Value.int.injEq, true_and]; rw [if_pos (.inr (.inl t2))]))
        by_cases t3 : n < 4
        · first | (exfalso; omega) | (simp (disch := omega) only [go_sem, c1, i1, c2, i2, e1]; exact Fin.val (by rw [hstop]; simp only [SV.val.injEq, Value.int.injEq, true_and]; rw [if_pos (.inr (.inr t3))]))
        have t4 : ¬ (x.length < 4 ∨ y.length < 4 ∨ n < 4) := by omega
        by_cases u1 : n = x.length
        · by_cases u2 : n = y.length
          · have hq : (x == y) = true := by rw [eq_len, csl_at h1 h2 h3 hend, decide_eq_true u1, decide_eq_true u2]; rfl
            have s1 := Tryz.hasSuffix_ok x y (by omega)
            have s2 := Tryz.hasSuffix_ok y x (by omega)
            rw [suf_y, csl_at h1 h2 h3 hend, decide_eq_true u2] at s1
            rw [suf_x, csl_at h1 h2 h3 hend, decide_eq_true u1] at s2
            first | (exfalso; omega) | (simp (disch := omega) only [go_sem, c1, i1, c2, i2, e1, hq]; exact Fin.val (by rw [hstop]; simp only [SV.val.injEq, Value.int.injEq, true_and]; rw [if_neg t4, if_pos ⟨u1, u2⟩]))
          · have hq : (x == y) = false := by rw [eq_len, csl_at h1 h2 h3 hend, decide_eq_true u1, decide_eq_false u2]; rfl
            have s1 := Tryz.hasSuffix_ok x y (by omega)
            have s2 := Tryz.hasSuffix_ok y x (by omega)
            rw [suf_y, csl_at h1 h2 h3 hend, decide_eq_false u2] at s1
            rw [suf_x, csl_at h1 h2 h3 hend, decide_eq_true u1] at s2
            have t5 : ¬ (n = x.length ∧ n = y.length) := by omega
            by_cases u3 : 7 ≤ n
            · first | (exfalso; omega) | (simp (disch := omega) only [go_sem, c1, i1, c2, i2, e1, hq]; exact Fin.val (by rw [hstop]; simp only [SV.val.injEq, Value.int.injEq, true_and]; rw [if_neg t4, if_neg t5, if_pos (.inl u3)]))
            · first | (exfalso; omega) | (simp (disch := omega) only [go_sem, c1, i1, c2, i2, e1, hq]; refine s1.callV 0 (z6 zd (z6 zd z7)) ?_; simp (disch := omega) only [go_sem, c1, i1, c2, i2, e1, hq]; refine s2.callV 0 (z6 zd (z6 zd z7)) ?_; simp (disch := omega) only [go_sem, c1, i1, c2, i2, e1, hq]; exact Fin.val (by rw [hstop]; simp only [SV.val.injEq, Value.int.injEq, true_and]; rw [if_neg t4, if_neg t5, if_pos (by omega)]))
        · by_cases u2 : n = y.length
          · have hq : (x == y) = false := by rw [eq_len, csl_at h1 h2 h3 hend, decide_eq_false u1, decide_eq_true u2]; rfl
            have s1 := Tryz.hasSuffix_ok x y (by omega)
            have s2 := Tryz.hasSuffix_ok y x (by omega)
            rw [suf_y, csl_at h1 h2 h3 hend, decide_eq_true u2] at s1
            rw [suf_x, csl_at h1 h2 h3 hend, decide_eq_false u1] at s2
            have t5 : ¬ (n = x.length ∧ n = y.length) := by omega
            by_cases u3 : 7 ≤ n
            · first | (exfalso; omega) | (simp (disch := omega) only [go_sem, c1, i1, c2, i2, e1, hq]; exact Fin.val (by rw [hstop]; simp only [SV.val.injEq, Value.int.injEq, true_and]; rw [if_neg t4, if_neg t5, if_pos (.inl u3)]))
            · first | (exfalso; omega) | (simp (disch := omega) only [go_sem, c1, i1, c2, i2, e1, hq]; refine s1.callV 0 (z6 zd (z6 zd z7)) ?_; simp (disch := omega) only [go_sem, c1, i1, c2, i2, e1, hq]; exact Fin.val (by rw [hstop]; simp only [SV.val.injEq, Value.int.injEq, true_and]; rw [if_neg t4, if_neg t5, if_pos (by omega)]))
          · have hq : (x == y) = false := by rw [eq_len, csl_at h1 h2 h3 hend, decide_eq_false u1, decide_eq_false u2]; rfl
            have s1 := Tryz.hasSuffix_ok x y (by omega)
            have s2 := Tryz.hasSuffix_ok y x (by omega)
            rw [suf_y, csl_at h1 h2 h3 hend, decide_eq_false u2] at s1
            rw [suf_x, csl_at h1 h2 h3 hend, decide_eq_false u1] at s2
            have t5 : ¬ (n = x.length ∧ n = y.length) := by omega
            by_cases u3 : 7 ≤ n
            · first | (exfalso; omega) | (simp (disch := omega) only [go_sem, c1, i1, c2, i2, e1, hq]; exact Fin.val (by rw [hstop]; simp only [SV.val.injEq, Value.int.injEq, true_and]; rw [if_neg t4, if_neg t5, if_pos (.inl u3)]))
            · first | (exfalso; omega) | (simp (disch := omega) only [go_sem, c1, i1, c2, i2, e1, hq]; refine s1.callV 0 (z6 zd (z6 zd z7)) ?_; simp (disch := omega) only [go_sem, c1, i1, c2, i2, e1, hq]; refine s2.callV 0 (z6 zd (z6 zd z7)) ?_; simp (disch := omega) only [go_sem, c1, i1, c2, i2, e1, hq]; exact Fin.val (by rw [hstop]; simp only [SV.val.injEq, Value.int.injEq, true_and]; rw [if_neg t4, if_neg t5, if_neg (by omega)]))
    · have hend : n = x.length ∨ n = y.length ∨ x.getD (x.length - 1 - n) 0 ≠ y.getD (y.length - 1 - n) 0 := .inr (.inl (by omega))
      have hstop := stop hend
      by_cases t1 : x.length < 4
      · first | (exfalso; omega) | (simp (disch := omega) only [go_sem, List.length_nil]; exact Fin.val (by rw [hstop]; simp only [SV.val.injEq, Value.int.injEq, true_and]; rw [if_pos (.inl t1)]))
      by_cases t2 : y.length < 4
      · first | (exfalso; omega) | (simp (disch := omega) only [go_sem, List.length_nil]; exact Fin.val (by rw [hstop]; simp only [SV.val.injEq, Value.int.injEq, true_and]; rw [if_pos (.inr (.inl t2))]))
      by_cases t3 : n < 4
      · first | (exfalso; omega) | (simp (disch := omega) only [go_sem, List.length_nil]; exact Fin.val (by rw [hstop]; simp only [SV.val.injEq, Value.int.injEq, true_and]; rw [if_pos (.inr (.inr t3))]))
      have t4 : ¬ (x.length < 4 ∨ y.length < 4 ∨ n < 4) := by omega
      by_cases u1 : n = x.length
      · by_cases u2 : n = y.length
        · have hq : (x == y) = true := by rw [eq_len, csl_at h1 h2 h3 hend, decide_eq_true u1, decide_eq_true u2]; rfl
          have s1 := Tryz.hasSuffix_ok x y (by omega)
          have s2 := Tryz.hasSuffix_ok y x (by omega)
          rw [suf_y, csl_at h1 h2 h3 hend, decide_eq_true u2] at s1
          rw [suf_x, csl_at h1 h2 h3 hend, decide_eq_true u1] at s2
          first | (exfalso; omega) | (simp (disch := omega) only [go_sem, hq]; exact Fin.val (by rw [hstop]; simp only [SV.val.injEq, Value.int.injEq, true_and]; rw [if_neg t4, if_pos ⟨u1, u2⟩]))
        · have hq : (x == y) = false := by rw [eq_len, csl_at h1 h2 h3 hend, decide_eq_true u1, decide_eq_false u2]; rfl
          have s1 := Tryz.hasSuffix_ok x y (by omega)
          have s2 := Tryz.hasSuffix_ok y x (by omega)
          rw [suf_y, csl_at h1 h2 h3 hend, decide_eq_false u2] at s1
          rw [suf_x, csl_at h1 h2 h3 hend, decide_eq_true u1] at s2
          have t5 : ¬ (n = x.length ∧ n = y.length) := by omega
          by_cases u3 : 7 ≤ n
          · first | (exfalso; omega) | (simp (disch := omega) only [go_sem, hq]; exact Fin.val (by rw [hstop]; simp only [SV.val.injEq, Value.int.injEq, true_and]; rw [if_neg t4, if_neg t5, if_pos (.inl u3)]))
          · first | (exfalso; omega) | (simp (disch := omega) only [go_sem, hq]; refine s1.callV 0 (z6 zd (z6 zd z7)) ?_; simp (disch := omega) only [go_sem, hq]; refine s2.callV 0 (z6 zd (z6 zd z7)) ?_; simp (disch := omega) only [go_sem, hq]; exact Fin.val (by rw [hstop]; simp only [SV.val.injEq, Value.int.injEq, true_and]; rw [if_neg t4, if_neg t5, if_pos (by omega)]))
      · by_cases u2 : n = y.length
        · have hq : (x == y) = false := by rw [eq_len, csl_at h1 h2 h3 hend, decide_eq_false u1, decide_eq_true u2]; rfl
          have s1 := Tryz.hasSuffix_ok x y (by omega)
          have s2 := Tryz.hasSuffix_ok y x (by omega)
          rw [suf_y, csl_at h1 h2 h3 hend, decide_eq_true u2] at s1
          rw [suf_x, csl_at h1 h2 h3 hend, decide_eq_false u1] at s2
          have t5 : ¬ (n = x.length ∧ n = y.length) := by omega
          by_cases u3 : 7 ≤ n
          · first | (exfalso; omega) | (simp (disch := omega) only [go_sem, hq]; exact Fin.val (by rw [hstop]; simp only [SV.val.injEq, Value.int.injEq, true_and]; rw [if_neg t4, if_neg t5, if_pos (.inl u3)]))
          · first | (exfalso; omega) | (simp (disch := omega) only [go_sem, hq]; refine s1.callV 0 (z6 zd (z6 zd z7)) ?_; simp (disch := omega) only [go_sem, hq]; exact Fin.val (by rw [hstop]; simp only [SV.val.injEq, Value.int.injEq, true_and]; rw [if_neg t4, if_neg t5, if_pos (by omega)]))
        · have hq : (x == y) = false := by rw [eq_len, csl_at h1 h2 h3 hend, decide_eq_false u1, decide_eq_false u2]; rfl
          have s1 := Tryz.hasSuffix_ok x y (by omega)
          have s2 := Tryz.hasSuffix_ok y x (by omega)
          rw [suf_y, csl_at h1 h2 h3 hend, decide_eq_false u2] at s1
          rw [suf_x, csl_at h1 h2 h3 hend, decide_eq_false u1] at s2
          have t5 : ¬ (n = x.length ∧ n = y.length) := by omega
          by_cases u3 : 7 ≤ n
          · first | (exfalso; omega) | (simp (disch := omega) only [go_sem, hq]; exact Fin.val (by rw [hstop]; simp only [SV.val.injEq, Value.int.injEq, true_and]; rw [if_neg t4, if_neg t5, if_pos (.inl u3)]))
          · first | (exfalso; omega) | (simp (disch := omega) only [go_sem, hq]; refine s1.callV 0 (z6 zd (z6 zd z7)) ?_; simp (disch := omega) only [go_sem, hq]; refine s2.callV 0 (z6 zd (z6 zd z7)) ?_; simp (disch := omega) only [go_sem, hq]; exact Fin.val (by rw [hstop]; simp only [SV.val.injEq, Value.int.injEq, true_and]; rw [if_neg t4, if_neg t5, if_neg (by omega)]))
  · have hend : n = x.length ∨ n = y.length ∨ x.getD (x.length - 1 - n) 0 ≠ y.getD (y.length - 1 - n) 0 := .inl (by omega)
    have hstop := stop hend
    by_cases t1 : x.length < 4
    · first | (exfalso; omega) | (simp (disch := omega) only [go_sem, List.length_nil]; exact Fin.val (by rw [hstop]; simp only [SV.val.injEq, Value.int.injEq, true_and]; rw [if_pos (.inl t1)]))
    by_cases t2 : y.length < 4
    · first | (exfalso; omega) | (simp (disch := omega) only [go_sem, List.length_nil]; exact Fin.val (by rw [hstop]; simp only [SV.val.injEq, Value.int.injEq, true_and]; rw [if_pos (.inr (.inl t2))]))
    by_cases t3 : n < 4
    · first | (exfalso; omega) | (simp (disch := omega) only [go_sem, List.length_nil]; exact Fin.val (by rw [hstop]; simp only [SV.val.injEq, Value.int.injEq, true_and]; rw [if_pos (.inr (.inr t3))]))
    have t4 : ¬ (x.length < 4 ∨ y.length < 4 ∨ n < 4) := by omega
    by_cases u1 : n = x.length
    · by_cases u2 : n = y.length
      · have hq : (x == y) = true := by rw [eq_len, csl_at h1 h2 h3 hend, decide_eq_true u1, decide_eq_true u2]; rfl
        have s1 := Tryz.hasSuffix_ok x y (by omega)
        have s2 := Tryz.hasSuffix_ok y x (by omega)
        rw [suf_y, csl_at h1 h2 h3 hend, decide_eq_true u2] at s1
        rw [suf_x, csl_at h1 h2 h3 hend, decide_eq_true u1] at s2
        first | (exfalso; omega) | (simp (disch := omega) only [go_sem, hq]; exact Fin.val (by rw [hstop]; simp only [SV.val.injEq, Value.int.injEq, true_and]; rw [if_neg t4, if_pos ⟨u1, u2⟩]))
      · have hq : (x == y) = false := by rw [eq_len, csl_at h1 h2 h3 hend, decide_eq_true u1, decide_eq_false u2]; rfl
        have s1 := Tryz.hasSuffix_ok x y (by omega)
        have s2 := Tryz.hasSuffix_ok y x (by omega)
        rw [suf_y, csl_at h1 h2 h3 hend, decide_eq_false u2] at s1
        rw [suf_x, csl_at h1 h2 h3 hend, decide_eq_true u1] at s2
        have t5 : ¬ (n = x.length ∧ n = y.length) := by omega
        by_cases u3 : 7 ≤ n
        · first | (exfalso; omega) | (simp (disch := omega) only [go_sem, hq]; exact Fin.val (by rw [hstop]; simp only [SV.val.injEq, Value.int.injEq, true_and]; rw [if_neg t4, if_neg t5, if_pos (.inl u3)]))
        · first | (exfalso; omega) | (simp (disch := omega) only [go_sem, hq]; refine s1.callV 0 (z6 zd (z6 zd z7)) ?_; simp (disch := omega) only [go_sem, hq]; refine s2.callV 0 (z6 zd (z6 zd z7)) ?_; simp (disch := omega) only [go_sem, hq]; exact Fin.val (by rw [hstop]; simp only [SV.val.injEq, Value.int.injEq, true_and]; rw [if_neg t4, if_neg t5, if_pos (by omega)]))
    · by_cases u2 : n = y.length
      · have hq : (x == y) = false := by rw [eq_len, csl_at h1 h2 h3 hend, decide_eq_false u1, decide_eq_true u2]; rfl
        have s1 := Tryz.hasSuffix_ok x y (by omega)
        have s2 := Tryz.hasSuffix_ok y x (by omega)
        rw [suf_y, csl_at h1 h2 h3 hend, decide_eq_true u2] at s1
        rw [suf_x, csl_at h1 h2 h3 hend, decide_eq_false u1] at s2
        have t5 : ¬ (n = x.length ∧ n = y.length) := by omega
        by_cases u3 : 7 ≤ n
        · first | (exfalso; omega) | (simp (disch := omega) only [go_sem, hq]; exact Fin.val (by rw [hstop]; simp only [SV.val.injEq, Value.int.injEq, true_and]; rw [if_neg t4, if_neg t5, if_pos (.inl u3)]))
        · first | (exfalso; omega) | (simp (disch := omega) only [go_sem, hq]; refine s1.callV 0 (z6 zd (z6 zd z7)) ?_; simp (disch := omega) only [go_sem, hq]; exact Fin.val (by rw [hstop]; simp only [SV.val.injEq, Value.int.injEq, true_and]; rw [if_neg t4, if_neg t5, if_pos (by omega)]))
      · have hq : (x == y) = false := by rw [eq_len, csl_at h1 h2 h3 hend, decide_eq_false u1, decide_eq_false u2]; rfl
        have s1 := Tryz.hasSuffix_ok x y (by omega)
        have s2 := Tryz.hasSuffix_ok y x (by omega)
        rw [suf_y, csl_at h1 h2 h3 hend, decide_eq_false u2] at s1
        rw [suf_x, csl_at h1 h2 h3 hend, decide_eq_false u1] at s2
        have t5 : ¬ (n = x.length ∧ n = y.length) := by omega
        by_cases u3 : 7 ≤ n
        · first | (exfalso; omega) | (simp (disch := omega) only [go_sem, hq]; exact Fin.val (by rw [hstop]; simp only [SV.val.injEq, Value.int.injEq, true_and]; rw [if_neg t4, if_neg t5, if_pos (.inl u3)]))
        · first | (exfalso; omega) | (simp (disch := omega) only [go_sem, hq]; refine s1.callV 0 (z6 zd (z6 zd z7)) ?_; simp (disch := omega) only [go_sem, hq]; refine s2.callV 0 (z6 zd (z6 zd z7)) ?_; simp (disch := omega) only [go_sem, hq]; exact Fin.val (by rw [hstop]; simp only [SV.val.injEq, Value.int.injEq, true_and]; rw [if_neg t4, if_neg t5, if_neg (by omega)]))
end Go.Sh

/-
  Years compared: contracts.
-/
namespace Go.Sh
open Go Go.Proofs

def nsc (p q : Int) : Int := if 10 ≤ (if p < q then q - p else p - q) then 0 else (1000 * (10 - (if p < q then q - p else p - q))).tdiv 10
theorem Tryz.l7Num_ok (x : Int) : PCall Tryz.prog 122 [.val (.int .i64 x)] (.val (.bool (inR x 0 9999))) := by
  refine FCall.pcall (R := fun r _ => r = .val (.bool (inR x 0 9999))) ?_ 0 (by rintro r H rfl; exact zg)
  have w := Tryz.l1In_ok x 0 9999
  refine FCall.of_body Tryz.func122 rfl (by kernel_rfl) (by simp [Tryz.ntmps122]) ?_
  refine SW_of_vc Tryz.mixed _ _ _ (by kernel_rfl) ?_
  simp (disch := omega) only [go_sem]
  refine w.callV 0 (z6 (z8) (z6 (z8) (z6 (z8) z7))) ?_
  simp (disch := omega) only [go_sem]
  exact Fin.val rfl
set_option maxHeartbeats 4000000 in
theorem Tryz.specNS_ok (p q : Int) (hp : 0 ≤ p ∧ p ≤ 9999) (hq : 0 ≤ q ∧ q ≤ 9999) : PCall Tryz.prog 72 [.val (.int .i64 p), .val (.int .i64 q), .val (.int .i64 10)] (.val (.int .i64 (nsc p q))) := by
  refine FCall.pcall (R := fun r _ => r = .val (.int .i64 (nsc p q))) ?_ 0 (by rintro r H rfl; exact z8)
  have w1 := Tryz.l7Num_ok p
  have w2 := Tryz.l7Num_ok q
  have w3 := Tryz.l1In_ok 10 1 9999
  rw [inR_tt hp.1 hp.2] at w1
  rw [inR_tt hq.1 hq.2] at w2
  rw [inR_tt (by omega) (by omega)] at w3
  refine FCall.of_body Tryz.func72 rfl (by kernel_rfl) (by simp [Tryz.ntmps72]) ?_
  refine SW_of_vc Tryz.mixed _ _ _ (by kernel_rfl) ?_
  unfold nsc
  by_cases h1 : p < q
  · have e1 : max p q = q := by omega
    have e2 : min p q = p := by omega
    rw [if_pos h1]
    by_cases h2 : 10 ≤ q - p
    · simp (disch := omega) only [go_sem, e1, e2]
      refine w1.callV 0 (z6 (z8) z7) ?_
      simp (disch := omega) only [go_sem, e1, e2]
      refine w2.callV 0 (z6 (z8) z7) ?_
      simp (disch := omega) only [go_sem, e1, e2]
      refine w3.callV 0 (z6 (z8) (z6 (z8) (z6 (z8) z7))) ?_
      simp (disch := omega) only [go_sem, e1, e2]
      exact Fin.val rfl
    · simp (disch := omega) only [go_sem, e1, e2]
      refine w1.callV 0 (z6 (z8) z7) ?_
      simp (disch := omega) only [go_sem, e1, e2]
      refine w2.callV 0 (z6 (z8) z7) ?_
      simp (disch := omega) only [go_sem, e1, e2]
      refine w3.callV 0 (z6 (z8) (z6 (z8) (z6 (z8) z7))) ?_
      simp (disch := omega) only [go_sem, e1, e2]
      exact Fin.val (by
      have b1 : 0 ≤ (1000 * (10 - (q - p))).tdiv 10 := Int.tdiv_nonneg (by omega) (by omega)
      have b2 : (1000 * (10 - (q - p))).tdiv 10 ≤ 1000 * (10 - (q - p)) := Int.tdiv_le_self _ (by omega)
      first | (rw [wrap_id (by omega) (by omega)]; done) | (rw [if_neg (by omega), wrap_id (by omega) (by omega)]) | (rw [if_pos (by omega), wrap_id (by omega) (by omega)]))
  · have e1 : max p q = p := by omega
    have e2 : min p q = q := by omega
    rw [if_neg h1]
    by_cases h2 : 10 ≤ p - q
    · simp (disch := omega) only [go_sem, e1, e2]
      refine w1.callV 0 (z6 (z8) z7) ?_
      simp (disch := omega) only [go_sem, e1, e2]
      refine w2.callV 0 (z6 (z8) z7) ?_
      simp (disch := omega) only [go_sem, e1, e2]
      refine w3.callV 0 (z6 (z8) (z6 (z8) (z6 (z8) z7))) ?_
      simp (disch := omega) only [go_sem, e1, e2]
      exact Fin.val rfl
    · simp (disch := omega) only [go_sem, e1, e2]
      refine w1.callV 0 (z6 (z8) z7) ?_
      simp (disch := omega) only [go_sem, e1, e2]
      refine w2.callV 0 (z6 (z8) z7) ?_
      simp (disch := omega) only [go_sem, e1, e2]
      refine w3.callV 0 (z6 (z8) (z6 (z8) (z6 (z8) z7))) ?_
      simp (disch := omega) only [go_sem, e1, e2]
      exact Fin.val (by
      have b1 : 0 ≤ (1000 * (10 - (p - q))).tdiv 10 := Int.tdiv_nonneg (by omega) (by omega)
      have b2 : (1000 * (10 - (p - q))).tdiv 10 ≤ 1000 * (10 - (p - q)) := Int.tdiv_le_self _ (by omega)
      have e3 : (if q < p then q else p) = q := by split <;> omega
      first | (rw [e3, wrap_id (by omega) (by omega)]; done) | (rw [wrap_id (by omega) (by omega)]; done) | (rw [if_neg (by omega), wrap_id (by omega) (by omega)]) | (rw [if_pos (by omega), wrap_id (by omega) (by omega)]))
set_option maxHeartbeats 4000000 in
theorem Tryz.implNS_ok (p q : Int) (hp : 0 ≤ p ∧ p ≤ 9999) (hq : 0 ≤ q ∧ q ≤ 9999) : PCall Tryz.prog 146 [.val (.int .i64 p), .val (.int .i64 q), .val (.int .i64 10)] (.val (.int .i64 (nsc p q))) := by
  refine FCall.pcall (R := fun r _ => r = .val (.int .i64 (nsc p q))) ?_ 0 (by rintro r H rfl; exact z8)
  have w1 := Tryz.within_ok p 0 9999
  have w2 := Tryz.within_ok q 0 9999
  have w3 := Tryz.within_ok 10 1 9999
  rw [inR_tt hp.1 hp.2] at w1
  rw [inR_tt hq.1 hq.2] at w2
  rw [inR_tt (by omega) (by omega)] at w3
  refine FCall.of_body Tryz.func146 rfl (by kernel_rfl) (by simp [Tryz.ntmps146]) ?_
  refine SW_of_vc Tryz.mixed _ _ _ (by kernel_rfl) ?_
  have key : ∀ d : Int, 0 ≤ d → (1000 * max (10 - d) 0).tdiv 10 = if 10 ≤ d then 0 else (1000 * (10 - d)).tdiv 10 := fun d hd => by
    by_cases h : 10 ≤ d
    · rw [if_pos h, show max (10 - d) 0 = 0 by omega]; rfl
    · rw [if_neg h, show max (10 - d) 0 = 10 - d by omega]
  unfold nsc
  by_cases h1 : p < q
  · have e1 : max (p - q) (q - p) = q - p := by omega
    have hk := key (q - p) (by omega)
    rw [if_pos h1, ← hk]
    have b1 : 0 ≤ max (10 - (q - p)) 0 ∧ max (10 - (q - p)) 0 ≤ 10 := by omega
    generalize hd : q - p = d at *
    generalize hmx : max (10 - d) 0 = mx at *
    have b2 : 0 ≤ (1000 * mx).tdiv 10 := Int.tdiv_nonneg (by omega) (by omega)
    have b3 : (1000 * mx).tdiv 10 ≤ 1000 * mx := Int.tdiv_le_self _ (by omega)
    simp (disch := omega) only [go_sem, hd, e1, hmx]
    refine w1.callV 0 (z6 (z8) (z6 (z8) (z6 (z8) z7))) ?_
    simp (disch := omega) only [go_sem, hd, e1, hmx]
    refine w2.callV 0 (z6 (z8) (z6 (z8) (z6 (z8) z7))) ?_
    simp (disch := omega) only [go_sem, hd, e1, hmx]
    refine w3.callV 0 (z6 (z8) (z6 (z8) (z6 (z8) z7))) ?_
    simp (disch := omega) only [go_sem, hd, e1, hmx]
    exact Fin.val (by rw [show (if 10 - d < 0 then 0 else 10 - d) = mx by split <;> omega, wrap_id (by omega) (by omega)])
  · have e1 : max (p - q) (q - p) = p - q := by omega
    have hk := key (p - q) (by omega)
    rw [if_neg h1, ← hk]
    have b1 : 0 ≤ max (10 - (p - q)) 0 ∧ max (10 - (p - q)) 0 ≤ 10 := by omega
    generalize hd : p - q = d at *
    generalize hmx : max (10 - d) 0 = mx at *
    have b2 : 0 ≤ (1000 * mx).tdiv 10 := Int.tdiv_nonneg (by omega) (by omega)
    have b3 : (1000 * mx).tdiv 10 ≤ 1000 * mx := Int.tdiv_le_self _ (by omega)
    simp (disch := omega) only [go_sem, hd, e1, hmx]
    refine w1.callV 0 (z6 (z8) (z6 (z8) (z6 (z8) z7))) ?_
    simp (disch := omega) only [go_sem, hd, e1, hmx]
    refine w2.callV 0 (z6 (z8) (z6 (z8) (z6 (z8) z7))) ?_
    simp (disch := omega) only [go_sem, hd, e1, hmx]
    refine w3.callV 0 (z6 (z8) (z6 (z8) (z6 (z8) z7))) ?_
    simp (disch := omega) only [go_sem, hd, e1, hmx]
    exact Fin.val (by rw [show (if 10 - d < 0 then 0 else 10 - d) = mx by split <;> omega, wrap_id (by omega) (by omega)])
end Go.Sh

/-
  Plain law: the features of two records.
-/
namespace Go.Sh
open Go Go.Proofs

theorem ed_symm (a b : List UInt8) : ∀ n i j, i + j ≤ n → ed a b i j = ed b a j i
  | _, 0, j, _ => by rw [ed_0, ed_r0]
  | _, i + 1, 0, _ => by rw [ed_0, ed_r0]
  | n + 1, i + 1, j + 1, h => by
    have e1 := ed_symm a b n i j (by omega)
    have e2 := ed_symm a b n i (j + 1) (by omega)
    have e3 := ed_symm a b n (i + 1) j (by omega)
    by_cases hc : a.getD i 0 = b.getD j 0
    · rw [ed_eq hc, ed_eq hc.symm, e1]
    · rw [ed_ne hc, ed_ne (Ne.symm hc), e1, e2, e3]; omega
theorem dist_symm (a b : List UInt8) : dist a b = dist b a := by
  rw [dist, dist, ed_symm a b _ _ _ (Nat.le_refl _)]
  by_cases h : a.length ≤ 40 ∧ b.length ≤ 40
  · rw [if_pos h, if_pos ⟨h.2, h.1⟩]
  · rw [if_neg h, if_neg (fun g => h ⟨g.2, g.1⟩)]
theorem escore_symm (a b : List UInt8) : escore a b = escore b a := by rw [escore, escore, dist_symm a b, Nat.max_comm a.length b.length]
theorem tsc_symm (a b : List UInt8) : tsc a b = tsc b a := by rw [tsc, tsc, escore_symm]; exact ite_congr (propext or_comm) (fun _ => rfl) (fun _ => rfl)
theorem csl_symm (x y : List UInt8) : csl x y = csl y x := cpl_symm _ _
theorem phs_symm (a b : List UInt8) : phs a b = phs b a := by
  rw [phs, phs, phd, phd, csl_symm (dgs b) (dgs a)]
  generalize csl (dgs a) (dgs b) = c
  generalize (dgs a).length = x
  generalize (dgs b).length = y
  exact ite_congr (propext (by omega)) (fun _ => rfl) fun _ => ite_congr (propext (by omega)) (fun _ => rfl) fun _ => ite_congr (propext (by omega)) (fun _ => rfl) (fun _ => rfl)
theorem nsc_symm (p q : Int) : nsc p q = nsc q p := by
  have e : (if p < q then q - p else p - q) = (if q < p then p - q else q - p) := by split <;> split <;> omega
  rw [nsc, nsc, e]
def ysc (a b : List UInt8) : Int := if yr a = 0 ∨ yr b = 0 then 0 else nsc (yr a) (yr b)
theorem ysc_symm (a b : List UInt8) : ysc a b = ysc b a := by rw [ysc, ysc, nsc_symm]; exact ite_congr (propext or_comm) (fun _ => rfl) (fun _ => rfl)
def pf (F G : List Wd) : List Int := [tsc (F.getD 0 []) (G.getD 0 []), sts (tks (F.getD 0 [])) (tks (G.getD 0 [])), sts (sks (F.getD 0 [])) (sks (G.getD 0 [])), tsc (F.getD 1 []) (G.getD 1 []), ysc (F.getD 2 []) (G.getD 2 []), phs (F.getD 3 []) (G.getD 3 [])]
theorem pf_symm (F G : List Wd) : pf F G = pf G F := by
  rw [pf, pf, tsc_symm (F.getD 0 []), tsc_symm (F.getD 1 []), ysc_symm (F.getD 2 []), phs_symm (F.getD 3 []), sts_symm (tks_ts _).1 (tks_ts _).1, sts_symm (sks_ts _).1 (sks_ts _).1]
theorem td_b {x m : Int} (h0 : 0 ≤ x) (h1 : x ≤ m) (hm : 0 < m) : 0 ≤ (1000 * x).tdiv m ∧ (1000 * x).tdiv m ≤ 1000 := by
  rw [Int.tdiv_eq_ediv_of_nonneg (by omega)]
  exact ⟨Int.ediv_nonneg (by omega) (by omega), Int.ediv_le_of_le_mul hm (by omega)⟩
theorem ed_max (a b : List UInt8) : ∀ i j, ed a b i j ≤ max i j
  | 0, j => by rw [ed_0]; omega
  | i + 1, 0 => by rw [ed_r0]; omega
  | i + 1, j + 1 => by
    have h1 := ed_max a b i j
    by_cases hc : a.getD i 0 = b.getD j 0
    · rw [ed_eq hc]; omega
    · rw [ed_ne hc]; omega
theorem dist_le {a b : List UInt8} : dist a b ≤ ((max a.length b.length : Nat) : Int) := by
  rw [dist]
  split
  · have := ed_max a b a.length b.length
    omega
  · omega
end Go.Sh

/-
  Contracts: an item moved to another block. Of the program.
-/
namespace Go.Sh
open Go Go.Proofs

end Go.Sh
