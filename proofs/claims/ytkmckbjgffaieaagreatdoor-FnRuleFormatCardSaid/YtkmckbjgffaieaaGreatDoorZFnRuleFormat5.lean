/-
  Texts put together: AT2, RF3, NL2, RF4, M1, DA1, DA2, PE1, MH1, RH1, RF5, NL1, FI4, CT3, RF6, AT3, PS2, RG1, RF7, RF8, RF9. What each proves stands at its own head, with its conditions.
-/
import Derived.Test.YtkmckbjgffaieaaGreatDoorZFnRuleFormat4

/-
  ParseInt: contracts of both.
-/
namespace Go.Sh
set_option linter.unusedSimpArgs false
set_option linter.unusedVariables false
open Go Go.Proofs

theorem fin_pr {R : SV → Heap → Prop} {a b : Value} {H : Heap} (h : R (.tup [.val a, .val b]) ⟨fun _ => none, H.nb⟩) : Fin R (.tup [.val a, .val b]) H :=
  ⟨⟨fun _ => none, H.nb⟩, ⟨rfl, fun _ => .inl rfl⟩, by simp [noRow, noRowL], fun b blk hb => by simp at hb, h⟩
abbrev pIR (s : List UInt8) : SV := .tup [.val (.int .i64 ((pint s).getD 0)), .val (.bool (pint s).isSome)]
theorem view_pr {H : Heap} {f : Nat} {k : IntKind} {n : Int} {b : Bool} : view H (f + 1) (.tup [.val (.int k n), .val (.bool b)]) = some (.tup [.val (.int k n), .val (.bool b)]) := by
  have h1 : viewL H f [.val (.int k n), .val (.bool b)] = some [.val (.int k n), .val (.bool b)] := viewL_cons_of view_int (viewL_cons_of view_bool viewL_nil_of)
  simp only [view, h1]
theorem fin_pI {s : List UInt8} {o : Option Int} {n : Int} {b : Bool} {H : Heap} (hp : pint s = o) (hn : n = o.getD 0) (hb : b = o.isSome) : Fin (fun r _ => r = pIR s) (.tup [.val (.int .i64 n), .val (.bool b)]) H :=
  fin_pr (by unfold pIR; rw [hp, hn, hb])
theorem take_succD {s : List UInt8} {i : Nat} (h : i < s.length) : s.take (i + 1) = s.take i ++ [s.getD i 0] := by
  rw [List.take_add_one, List.getElem?_eq_getElem h]; simp [List.getD, h]
theorem dval_succ {s : List UInt8} {i : Nat} (h : i < s.length) : dval (s.take (i + 1)) = dstep (dval (s.take i)) (s.getD i 0) := by
  rw [take_succD h, dval, List.foldl_append]; rfl
theorem dcnt_succ {s : List UInt8} {i : Nat} (h : i < s.length) : dcnt (s.take (i + 1)) = dcnt (s.take i) + if dgt (s.getD i 0) = true then 1 else 0 := by
  rw [take_succD h, dcnt, List.countP_append, List.countP_singleton]; rfl
theorem dcnt_le (s : List UInt8) (i : Nat) : dcnt (s.take i) ≤ i := by
  refine Nat.le_trans List.countP_le_length ?_
  rw [List.length_take]; omega
theorem dval_b {s : List UInt8} {i : Nat} (h : i ≤ 11) : dval (s.take i) < 100000000000 := by
  have h1 := dval_lt (s.take i)
  have h2 := pow10_le (k := dcnt (s.take i)) (m := 11) (by have := dcnt_le s i; omega)
  omega
theorem dval_b10 {s : List UInt8} {i : Nat} (h : i ≤ 10) : dval (s.take i) < 10000000000 := by
  have h1 := dval_lt (s.take i)
  have h2 := pow10_le (k := dcnt (s.take i)) (m := 10) (by have := dcnt_le s i; omega)
  omega
theorem pint_t {s : List UInt8} (h1 : dcnt s ≤ 9) (h2 : s.length ≤ 10) (h3 : Lib.itoa (nval s) = s) : pint s = some (nval s) := by rw [pint, if_pos ⟨h1, h2, h3⟩]
theorem pint_f {s : List UInt8} (h : ¬ (dcnt s ≤ 9 ∧ s.length ≤ 10 ∧ Lib.itoa (nval s) = s)) : pint s = none := by rw [pint, if_neg h]
theorem sb_ix0 {s : List UInt8} (h : 0 < s.length) : (if h : 0 < s.length then some (SV.val (.int .u8 ((sb s)[0]'(by rw [sb_size]; exact h)).toNat)) else none) = some (.val (.int .u8 (s.getD 0 0).toNat)) := by
  rw [dif_pos h]
  simp [sb, ByteArray.getElem_eq_getElem_data, h]
set_option maxHeartbeats 4000000 in
theorem Tryz.specPI_ok (s : List UInt8) (hs : s.length ≤ 1048576) : PCall Tryz.prog 113 [str s] (pIR s) := by
  refine FCall.pcall (R := fun r _ => r = pIR s) ?_ 1 (by rintro r H rfl; exact view_pr)
  refine FCall.of_body Tryz.func113 rfl (by kernel_rfl) (by simp [Tryz.ntmps113]) ?_
  refine SW_of_vc Tryz.mixed _ _ _ (by kernel_rfl) ?_
  simp (disch := omega) only [Tryz.ntmps113, Tryz.results113, go_sem]
  refine LoopW.loop (fun i : Nat => ⟨ofL [(0, str s), (4, .val (.int .i64 (dval (s.take i)))), (5, .val (.int .i64 (dcnt (s.take i)))), (6, .val (.int .i64 i))], hp [] 0⟩) (fun i => i ≤ s.length ∧ i ≤ 11) (fun i => 11 - i) 0 (by omega) (Wk.of (by simp only [go_sem, ↓List.forall_mem_cons, List.not_mem_nil, false_implies, implies_true, and_true, true_and, and_self, ri_eq, Int.natCast_add, Int.cast_ofNat_Int, List.take_zero, show dval [] = 0 from rfl, show dcnt [] = 0 from rfl]; try simp) rfl) ?_
  rintro i ⟨hi, hi11⟩
  have hb11 := dval_b (s := s) hi11
  have hc11 := dcnt_le s i
  refine SW_of_vc Tryz.mixed _ _ _ (by kernel_rfl) ?_
  by_cases hlt : i < s.length ∧ i < 11
  · obtain ⟨hlt, hlt11⟩ := hlt
    have hix := sb_ix hlt
    have hb10 := dval_b10 (s := s) (i := i) (by omega)
    have hvs := dval_succ hlt
    have hcs := dcnt_succ hlt
    have hc8 : (s.getD i 0).toNat < 256 := UInt8.toNat_lt _
    generalize s.getD i 0 = c at *
    by_cases hd1 : 48 ≤ c.toNat
    · by_cases hd2 : c.toNat ≤ 57
      · have hd : dgt c = true := by simp only [dgt, decide_eq_true_eq]; omega
        rw [dstep, if_pos hd] at hvs
        rw [if_pos hd] at hcs
        have hz : ((dval (s.take i) : Int) * 10 + ((c.toNat : Int) - 48)) = ((dval (s.take i) * 10 + (c.toNat - 48) : Nat) : Int) := by omega
        have h8 : IntKind.u8.wrap ((c.toNat : Int) - 48) = (c.toNat : Int) - 48 := by rw [IntKind.wrap_u8]; omega
        simp (disch := omega) only [Tryz.ntmps113, Tryz.results113, go_sem, hix, h8, hz]
        exact ⟨i + 1, by omega, by omega, Wk.of (by simp only [go_sem, ↓List.forall_mem_cons, List.not_mem_nil, false_implies, implies_true, and_true, true_and, and_self, ri_eq, Int.natCast_add, Int.cast_ofNat_Int, hvs, hcs]; try simp) rfl⟩
      · have hd : dgt c = false := by simp only [dgt, decide_eq_false_iff_not]; omega
        rw [dstep, if_neg (by simp [hd])] at hvs
        rw [if_neg (by simp [hd])] at hcs
        simp (disch := omega) only [Tryz.ntmps113, Tryz.results113, go_sem, hix]
        exact ⟨i + 1, by omega, by omega, Wk.of (by simp only [go_sem, ↓List.forall_mem_cons, List.not_mem_nil, false_implies, implies_true, and_true, true_and, and_self, ri_eq, Int.natCast_add, Int.cast_ofNat_Int, hvs, hcs]; try simp) rfl⟩
    · have hd : dgt c = false := by simp only [dgt, decide_eq_false_iff_not]; omega
      rw [dstep, if_neg (by simp [hd])] at hvs
      rw [if_neg (by simp [hd])] at hcs
      simp (disch := omega) only [Tryz.ntmps113, Tryz.results113, go_sem, hix]
      exact ⟨i + 1, by omega, by omega, Wk.of (by simp only [go_sem, ↓List.forall_mem_cons, List.not_mem_nil, false_implies, implies_true, and_true, true_and, and_self, ri_eq, Int.natCast_add, Int.cast_ofNat_Int, hvs, hcs]; try simp) rfl⟩
  · have hex : i < s.length → i = 11 := by omega
    by_cases h0 : s = []
    · have hsv : nval s = (dval s : Int) := by subst h0; rfl
      subst h0
      obtain rfl : i = 0 := by simpa using hi
      have hp : pint [] = none := pint_nil
      have hw := Tryz.specFI_ok 0 (by omega) (by omega)
      have he2 : (Lib.itoa 0 == ([] : List UInt8)) = false := by
        rw [Lib.itoa, if_neg (by decide), Lib.decDigits, dif_pos (by decide)]; decide
      simp (disch := omega) only [Tryz.ntmps113, Tryz.results113, go_sem, List.take_nil, List.length_nil, show dval [] = 0 from rfl, show dcnt [] = 0 from rfl]
      refine hw.callV 0 (viewL_cons_of (view_int) viewL_nil_of) ?_
      simp (disch := omega) only [Tryz.ntmps113, Tryz.results113, go_sem, he2, Bool.not_false]
      exact fin_pI hp rfl rfl
    have hl0 : 0 < s.length := List.length_pos_iff.2 h0
    have hix0 := sb_ix0 hl0
    have hhd : s.head? = some (s.getD 0 0) := by
      cases s with
      | nil => exact absurd rfl h0
      | cons c r => rfl
    by_cases hm : s.getD 0 0 = 45
    · have hsv : nval s = 0 - (dval s : Int) := by rw [nval, if_pos (by rw [hhd, hm])]; omega
      rw [hm] at hix0
      have hm2 : (((45 : UInt8).toNat : Int) == 45) = true := by decide
      by_cases hl10 : 10 < s.length
      · have hp : pint s = none := pint_f (by omega)
        by_cases hls : i < s.length
        · have hi11b := hex hls
          by_cases hk9 : 9 < dcnt (s.take i)
          · simp (disch := omega) only [Tryz.ntmps113, Tryz.results113, go_sem, hix0, hm2]
            exact fin_pI hp rfl rfl
          · simp (disch := omega) only [Tryz.ntmps113, Tryz.results113, go_sem, hix0, hm2]
            exact fin_pI hp rfl rfl
        · by_cases hk9 : 9 < dcnt (s.take i)
          · simp (disch := omega) only [Tryz.ntmps113, Tryz.results113, go_sem, hix0, hm2]
            exact fin_pI hp rfl rfl
          · simp (disch := omega) only [Tryz.ntmps113, Tryz.results113, go_sem, hix0, hm2]
            exact fin_pI hp rfl rfl
      obtain rfl : i = s.length := by omega
      rw [List.take_length] at hb11 hc11
      by_cases hk9 : 9 < dcnt s
      · have hp : pint s = none := pint_f (by omega)
        simp (disch := omega) only [Tryz.ntmps113, Tryz.results113, go_sem, hix0, hm2, List.take_length]
        exact fin_pI hp rfl rfl
      have hb : dval s < 1000000000 := by
        have h1 := dval_lt s
        have h2 := pow10_le (k := dcnt s) (m := 9) (by omega)
        omega
      have hw := Tryz.specFI_ok (nval s) (by rw [hsv]; omega) (by rw [hsv]; omega)
      rw [hsv] at hw
      by_cases he : Lib.itoa (nval s) = s
      · have hp := pint_t (by omega) (by omega) he
        rw [hsv] at he hp
        simp (disch := omega) only [Tryz.ntmps113, Tryz.results113, go_sem, hix0, hm2, List.take_length]
        refine hw.callV 0 (viewL_cons_of (view_int) viewL_nil_of) ?_
        simp (disch := omega) only [Tryz.ntmps113, Tryz.results113, go_sem, he, beq_self_eq_true, Bool.not_true]
        exact fin_pI hp (by first | rfl | (simp only [List.take_length]; rfl)) rfl
      · have hp : pint s = none := pint_f (fun h => he h.2.2)
        rw [hsv] at he
        have he2 := beq_eq_false_iff_ne.2 he
        simp (disch := omega) only [Tryz.ntmps113, Tryz.results113, go_sem, hix0, hm2, List.take_length]
        refine hw.callV 0 (viewL_cons_of (view_int) viewL_nil_of) ?_
        simp (disch := omega) only [Tryz.ntmps113, Tryz.results113, go_sem, he2, Bool.not_false]
        exact fin_pI hp rfl rfl
    · have hsv : nval s = (dval s : Int) := by rw [nval, if_neg (by rw [hhd]; intro h; exact hm (Option.some.inj h))]
      have hm2 : (((s.getD 0 0).toNat : Int) == 45) = false := by
        rw [beq_eq_false_iff_ne]; intro h
        exact hm (UInt8.toNat_inj.1 (by exact_mod_cast h))
      by_cases hl10 : 10 < s.length
      · have hp : pint s = none := pint_f (by omega)
        by_cases hls : i < s.length
        · have hi11b := hex hls
          by_cases hk9 : 9 < dcnt (s.take i)
          · simp (disch := omega) only [Tryz.ntmps113, Tryz.results113, go_sem, hix0, hm2]
            exact fin_pI hp rfl rfl
          · simp (disch := omega) only [Tryz.ntmps113, Tryz.results113, go_sem, hix0, hm2]
            exact fin_pI hp rfl rfl
        · by_cases hk9 : 9 < dcnt (s.take i)
          · simp (disch := omega) only [Tryz.ntmps113, Tryz.results113, go_sem, hix0, hm2]
            exact fin_pI hp rfl rfl
          · simp (disch := omega) only [Tryz.ntmps113, Tryz.results113, go_sem, hix0, hm2]
            exact fin_pI hp rfl rfl
      obtain rfl : i = s.length := by omega
      rw [List.take_length] at hb11 hc11
      by_cases hk9 : 9 < dcnt s
      · have hp : pint s = none := pint_f (by omega)
        simp (disch := omega) only [Tryz.ntmps113, Tryz.results113, go_sem, hix0, hm2, List.take_length]
        exact fin_pI hp rfl rfl
      have hb : dval s < 1000000000 := by
        have h1 := dval_lt s
        have h2 := pow10_le (k := dcnt s) (m := 9) (by omega)
        omega
      have hw := Tryz.specFI_ok (nval s) (by rw [hsv]; omega) (by rw [hsv]; omega)
      rw [hsv] at hw
      by_cases he : Lib.itoa (nval s) = s
      · have hp := pint_t (by omega) (by omega) he
        rw [hsv] at he hp
        simp (disch := omega) only [Tryz.ntmps113, Tryz.results113, go_sem, hix0, hm2, List.take_length]
        refine hw.callV 0 (viewL_cons_of (view_int) viewL_nil_of) ?_
        simp (disch := omega) only [Tryz.ntmps113, Tryz.results113, go_sem, he, beq_self_eq_true, Bool.not_true]
        exact fin_pI hp (by first | rfl | (simp only [List.take_length]; rfl)) rfl
      · have hp : pint s = none := pint_f (fun h => he h.2.2)
        rw [hsv] at he
        have he2 := beq_eq_false_iff_ne.2 he
        simp (disch := omega) only [Tryz.ntmps113, Tryz.results113, go_sem, hix0, hm2, List.take_length]
        refine hw.callV 0 (viewL_cons_of (view_int) viewL_nil_of) ?_
        simp (disch := omega) only [Tryz.ntmps113, Tryz.results113, go_sem, he2, Bool.not_false]
        exact fin_pI hp rfl rfl
set_option maxHeartbeats 4000000 in
theorem Tryz.implPI_ok (s : List UInt8) (hs : s.length ≤ 1048576) : PCall Tryz.prog 40 [str s] (pIR s) := by
  refine FCall.pcall (R := fun r _ => r = pIR s) ?_ 1 (by rintro r H rfl; exact view_pr)
  refine FCall.of_body Tryz.func40 rfl (by kernel_rfl) (by simp [Tryz.ntmps40]) ?_
  refine SW_of_vc Tryz.mixed _ _ _ (by kernel_rfl) ?_
  by_cases hok : ∃ v, Lib.atoiAll s = .ok v
  · obtain ⟨v, hv⟩ := hok
    obtain ⟨v1, v2⟩ := atoiAll_i64 hv
    have wA := Tryz.atoi_t s v hv hs
    have wF := Tryz.implFI_ok v v1 v2
    have wW := Tryz.within_ok v (-999999999) 999999999
    by_cases he : Lib.itoa v = s
    · by_cases hr : -999999999 ≤ v ∧ v ≤ 999999999
      · have hp : pint s = some v := pint_of he hr.1 hr.2
        rw [inR_tt hr.1 hr.2] at wW
        simp (disch := omega) only [Tryz.ntmps40, Tryz.results40, go_sem]
        refine wA.callV 0 (viewL_cons_of view_str viewL_nil_of) ?_
        simp (disch := omega) only [Tryz.ntmps40, Tryz.results40, go_sem]
        refine wF.callV 0 (viewL_cons_of (view_int) viewL_nil_of) ?_
        simp (disch := omega) only [Tryz.ntmps40, Tryz.results40, go_sem, he, beq_self_eq_true, Bool.not_true]
        refine wW.callV 0 (viewL_cons_of (view_int) (viewL_cons_of (view_int) (viewL_cons_of (view_int) viewL_nil_of))) ?_
        simp (disch := omega) only [Tryz.ntmps40, Tryz.results40, go_sem]
        exact fin_pI hp rfl rfl
      · have hp : pint s = none := pint_none fun n h1 h2 h3 h4 => hr (by
          rw [hv] at h1
          simp only [Lib.NumEnd.ok.injEq] at h1
          omega)
        have e : inR v (-999999999) 999999999 = false := by
          cases h : inR v (-999999999) 999999999 with
          | false => rfl
          | true => exact absurd (inR_of h) hr
        rw [e] at wW
        simp (disch := omega) only [Tryz.ntmps40, Tryz.results40, go_sem]
        refine wA.callV 0 (viewL_cons_of view_str viewL_nil_of) ?_
        simp (disch := omega) only [Tryz.ntmps40, Tryz.results40, go_sem]
        refine wF.callV 0 (viewL_cons_of (view_int) viewL_nil_of) ?_
        simp (disch := omega) only [Tryz.ntmps40, Tryz.results40, go_sem, he, beq_self_eq_true, Bool.not_true]
        refine wW.callV 0 (viewL_cons_of (view_int) (viewL_cons_of (view_int) (viewL_cons_of (view_int) viewL_nil_of))) ?_
        simp (disch := omega) only [Tryz.ntmps40, Tryz.results40, go_sem]
        exact fin_pI hp rfl rfl
    · have hp : pint s = none := pint_none fun n h1 h2 h3 h4 => he (by
        rw [hv] at h1
        simp only [Lib.NumEnd.ok.injEq] at h1
        rw [h1]; exact h2)
      have he2 := beq_eq_false_iff_ne.2 he
      simp (disch := omega) only [Tryz.ntmps40, Tryz.results40, go_sem]
      refine wA.callV 0 (viewL_cons_of view_str viewL_nil_of) ?_
      simp (disch := omega) only [Tryz.ntmps40, Tryz.results40, go_sem]
      refine wF.callV 0 (viewL_cons_of (view_int) viewL_nil_of) ?_
      simp (disch := omega) only [Tryz.ntmps40, Tryz.results40, go_sem, he2, Bool.not_false]
      exact fin_pI hp rfl rfl
  · obtain ⟨x, wA⟩ := Tryz.atoi_n s (fun v hv => hok ⟨v, hv⟩) hs
    have hp : pint s = none := pint_none fun n h1 _ _ _ => hok ⟨n, h1⟩
    simp (disch := omega) only [Tryz.ntmps40, Tryz.results40, go_sem]
    refine wA.callV 0 (viewL_cons_of view_str viewL_nil_of) ?_
    simp (disch := omega) only [Tryz.ntmps40, Tryz.results40, go_sem]
    exact fin_pI hp rfl rfl
end Go.Sh

/-
  A test read back: contracts.
-/
namespace Go.Sh
set_option linter.unusedSimpArgs false
set_option linter.unusedVariables false
open Go Go.Proofs

theorem fin_tst {R : SV → Heap → Prop} {a b c : Value} {u : Value} {H : Heap} (h : R (.tup [.agg [.val a, .val b, .val c], .val u]) ⟨fun _ => none, H.nb⟩) : Fin R (.tup [.agg [.val a, .val b, .val c], .val u]) H :=
  ⟨⟨fun _ => none, H.nb⟩, ⟨rfl, fun _ => .inl rfl⟩, by simp [noRow, noRowL], fun b blk hb => by simp at hb, h⟩
theorem view_tst {H : Heap} {f : Nat} {a b : Int} {s u : Bool} : view H (f + 2) (.tup [.agg [.val (.int .i64 a), .val (.int .i64 b), .val (.bool s)], .val (.bool u)]) = some (.tup [.agg [.val (.int .i64 a), .val (.int .i64 b), .val (.bool s)], .val (.bool u)]) := by
  have h1 : viewL H (f + 1) [.agg [.val (.int .i64 a), .val (.int .i64 b), .val (.bool s)], .val (.bool u)] = some [.agg [.val (.int .i64 a), .val (.int .i64 b), .val (.bool s)], .val (.bool u)] := viewL_cons_of view_con (viewL_cons_of view_bool viewL_nil_of)
  simp only [view, h1]
theorem cut_ge {p q : List UInt8} (h : (62 : UInt8) ∉ p) : Lib.cut (p ++ [62, 61] ++ q) [62, 61] = (p, q, true) := by
  have := idx_app (a := 62) (sub := [61]) (q := q) h
  rw [Lib.cut, this, if_pos (by omega), Int.toNat_natCast]
  simp [List.append_assoc]
theorem cut_none {s : List UInt8} (h : (62 : UInt8) ∉ s) : Lib.cut s [62, 61] = (s, [], false) := by
  rw [Lib.cut, idx_no h]; rfl
theorem cut_lt {p q : List UInt8} (h : (60 : UInt8) ∉ p) : Lib.cut (p ++ [60] ++ q) [60] = (p, q, true) := by
  have := idx_app (a := 60) (sub := []) (q := q) h
  rw [Lib.cut, this, if_pos (by omega), Int.toNat_natCast]
  simp [List.append_assoc]
theorem fname_no2 {f : Nat} (h : f < 6) : (60 : UInt8) ∉ fname f ∧ (62 : UInt8) ∉ fname f :=
  ⟨fun hm => absurd (fname_no h 60 hm) (by decide), fun hm => absurd (fname_no h 62 hm) (by decide)⟩
abbrev tstR (c : Con) (u : Bool) : SV := .tup [.agg [.val (.int .i64 c.1), .val (.int .i64 c.2.1), .val (.bool c.2.2)], .val (.bool u)]
theorem nmV_all : ((nmV.drop 0).take 6) = nmV := rfl
set_option maxHeartbeats 4000000 in
theorem Tryz.parseTest_ok (c : Con) (h : OkC c) : PCall Tryz.prog 36 [str (fmtT c)] (tstR c true) := by
  have hlen := fmtT_len h
  obtain ⟨⟨f, hf, hf6⟩, h1, h2⟩ := h
  obtain ⟨a, b, s⟩ := c
  simp only at hf h1 h2
  subst hf
  have hp : pint (Lib.itoa b) = some b := pint_itoa (by omega) (by omega)
  have hil := itoa_k (x := b) (by omega)
  have wP := Tryz.implPI_ok (Lib.itoa b) (by omega)
  rw [pIR, hp] at wP
  have wX := Tryz.sIndex_ok fnm (fname f) (by decide)
  rw [fx_name hf6] at wX
  obtain ⟨n60, n62⟩ := fname_no2 hf6
  have wC1 := Tryz.cutG_ok (fmtT ((f : Int), b, s)) [62, 61] (by omega)
  have wC2 := Tryz.cutG_ok (fmtT ((f : Int), b, s)) [60] (by omega)
  have hfin : ∀ H : Heap, Fin (fun r _ => r = tstR ((f : Int), b, s) true) (.tup [.agg [.val (.int .i64 f), .val (.int .i64 b), .val (.bool s)], .val (.bool true)]) H := fun H => fin_tst rfl
  refine FCall.pcall (R := fun r _ => r = tstR ((f : Int), b, s) true) ?_ 2 (by rintro r H rfl; exact view_tst)
  refine FCall.of_body Tryz.func36 rfl (by kernel_rfl) (by simp [Tryz.ntmps36]) ?_
  refine SW_of_vc Tryz.mixed _ _ _ (by kernel_rfl) ?_
  cases s with
  | false =>
    have e1 : Lib.cut (fmtT ((f : Int), b, false)) [62, 61] = (fname f, Lib.itoa b, true) := by
      have := cut_ge (p := fname f) (q := Lib.itoa b) n62
      rw [← this]; rfl
    rw [e1] at wC1
    generalize fmtT ((f : Int), b, false) = t at *
    simp (disch := omega) only [Tryz.ntmps36, Tryz.results36, go_sem]
    refine wC1.callV 0 (viewL_cons_of view_str (viewL_cons_of view_str viewL_nil_of)) ?_
    simp (disch := omega) only [Tryz.ntmps36, Tryz.results36, go_sem]
    refine wP.callV 0 (viewL_cons_of view_str viewL_nil_of) ?_
    simp (disch := omega) only [Tryz.ntmps36, Tryz.results36, go_sem, Option.getD_some, Option.isSome_some, nmV_all]
    refine wX.callV 0 (viewL_cons_of view_row (viewL_cons_of view_str viewL_nil_of)) ?_
    simp (disch := omega) only [Tryz.ntmps36, Tryz.results36, go_sem, Option.getD_some, Option.isSome_some]
    exact hfin _
  | true =>
    have hb : fmtT ((f : Int), b, true) = fname f ++ [60] ++ Lib.itoa b := rfl
    have e1 : Lib.cut (fmtT ((f : Int), b, true)) [62, 61] = (fmtT ((f : Int), b, true), [], false) := cut_none (by
      rw [hb]
      intro hm
      rcases List.mem_append.1 hm with hm | hm
      · rcases List.mem_append.1 hm with hm | hm
        · exact n62 hm
        · exact absurd hm (by decide)
      · exact absurd (itoa_dgt (by omega) 62 hm).2 (by decide))
    have e2 : Lib.cut (fmtT ((f : Int), b, true)) [60] = (fname f, Lib.itoa b, true) := by
      have := cut_lt (p := fname f) (q := Lib.itoa b) n60
      rw [← this]; rfl
    rw [e1] at wC1
    rw [e2] at wC2
    generalize fmtT ((f : Int), b, true) = t at *
    simp (disch := omega) only [Tryz.ntmps36, Tryz.results36, go_sem]
    refine wC1.callV 0 (viewL_cons_of view_str (viewL_cons_of view_str viewL_nil_of)) ?_
    simp (disch := omega) only [Tryz.ntmps36, Tryz.results36, go_sem]
    refine wC2.callV 0 (viewL_cons_of view_str (viewL_cons_of view_str viewL_nil_of)) ?_
    simp (disch := omega) only [Tryz.ntmps36, Tryz.results36, go_sem]
    refine wP.callV 0 (viewL_cons_of view_str viewL_nil_of) ?_
    simp (disch := omega) only [Tryz.ntmps36, Tryz.results36, go_sem, Option.getD_some, Option.isSome_some, nmV_all]
    refine wX.callV 0 (viewL_cons_of view_row (viewL_cons_of view_str viewL_nil_of)) ?_
    simp (disch := omega) only [Tryz.ntmps36, Tryz.results36, go_sem, Option.getD_some, Option.isSome_some]
    exact hfin _
set_option maxHeartbeats 4000000 in
theorem Tryz.parseTest_nil : PCall Tryz.prog 36 [str []] (tstR (-1, 0, true) false) := by
  have wP := Tryz.implPI_ok [] (by simp)
  rw [pIR, pint_nil] at wP
  have wX := Tryz.sIndex_ok fnm [] (by decide)
  have ex : fx (fun y => ([] : List UInt8) == y) fnm = -1 := by decide
  rw [ex] at wX
  have wC1 := Tryz.cutG_ok [] [62, 61] (by simp)
  have wC2 := Tryz.cutG_ok [] [60] (by simp)
  have e1 : Lib.cut ([] : List UInt8) [62, 61] = ([], [], false) := cut_none (by simp)
  have e2 : Lib.cut ([] : List UInt8) [60] = ([], [], false) := by rw [Lib.cut, idx_no (by simp)]; rfl
  rw [e1] at wC1
  rw [e2] at wC2
  have hfin : ∀ H : Heap, Fin (fun r _ => r = tstR (-1, 0, true) false) (.tup [.agg [.val (.int .i64 (-1)), .val (.int .i64 0), .val (.bool true)], .val (.bool false)]) H := fun H => fin_tst rfl
  refine FCall.pcall (R := fun r _ => r = tstR (-1, 0, true) false) ?_ 2 (by rintro r H rfl; exact view_tst)
  refine FCall.of_body Tryz.func36 rfl (by kernel_rfl) (by simp [Tryz.ntmps36]) ?_
  refine SW_of_vc Tryz.mixed _ _ _ (by kernel_rfl) ?_
  simp (disch := omega) only [Tryz.ntmps36, Tryz.results36, go_sem]
  refine wC1.callV 0 (viewL_cons_of view_str (viewL_cons_of view_str viewL_nil_of)) ?_
  simp (disch := omega) only [Tryz.ntmps36, Tryz.results36, go_sem]
  refine wC2.callV 0 (viewL_cons_of view_str (viewL_cons_of view_str viewL_nil_of)) ?_
  simp (disch := omega) only [Tryz.ntmps36, Tryz.results36, go_sem]
  refine wP.callV 0 (viewL_cons_of view_str viewL_nil_of) ?_
  simp (disch := omega) only [Tryz.ntmps36, Tryz.results36, go_sem, Option.getD_none, Option.isSome_none, nmV_all]
  refine wX.callV 0 (viewL_cons_of view_row (viewL_cons_of view_str viewL_nil_of)) ?_
  simp (disch := omega) only [Tryz.ntmps36, Tryz.results36, go_sem, Option.getD_none, Option.isSome_none]
  exact hfin _
end Go.Sh

/-
  Growing slices of any kind that are nil as long as they are empty.
-/
namespace Go.Sh
set_option linter.unusedSimpArgs false
set_option linter.unusedVariables false
open Go Go.Proofs

def nlG (z b n : Nat) : SV := if n = 0 then .val (.slice none 0 0) else .own b 0 n n z false
def nlGH (b n : Nat) (cs : List SV) : List (Nat × Blk) := if n = 0 then [] else [(b, ⟨cs, false⟩)]
theorem nlG_f {z b n : Nat} (h : n ≠ 0) : nlG z b n = .own b 0 n n z false := if_neg h
theorem nlG_t {z b n : Nat} (h : n = 0) : nlG z b n = .val (.slice none 0 0) := if_pos h
theorem nlG_s {z b n : Nat} : nlG z b (n + 1) = .own b 0 (n + 1) (n + 1) z false := if_neg (by omega)
theorem nlG_0 {z b : Nat} : nlG z b 0 = .val (.slice none 0 0) := if_pos rfl
theorem nlGH_f {b n : Nat} {cs : List SV} (h : n ≠ 0) : nlGH b n cs = [(b, ⟨cs, false⟩)] := if_neg h
theorem nlGH_t {b n : Nat} {cs : List SV} (h : n = 0) : nlGH b n cs = [] := if_pos h
theorem nlGH_in {b n : Nat} {cs : List SV} {H : Heap} (h : n ≠ 0 → H.map b = some ⟨cs, false⟩) : ∀ q ∈ nlGH b n cs, H.map q.1 = some q.2 := by
  intro q hq
  unfold nlGH at hq
  split at hq
  · simp at hq
  · rename_i h0
    simp at hq; subst hq
    exact h h0
theorem nlGH_map {b n : Nat} {cs : List SV} (h : n ≠ 0) : hmap (nlGH b n cs) b = some ⟨cs, false⟩ := by rw [nlGH_f h, hmap_cons, if_pos rfl]
theorem delB_nlGH {b x n : Nat} {cs : List SV} (h : n ≠ 0 → b ≠ x) : delB (nlGH b n cs) x = nlGH b n cs := by
  by_cases h0 : n = 0
  · rw [nlGH_t h0]; rfl
  · rw [nlGH_f h0]; have := h h0; simp [delB, this]
end Go.Sh

/-
  Rules formatted: of the program.
-/
namespace Go.Sh
set_option linter.unusedSimpArgs false
set_option linter.unusedVariables false
open Go Go.Proofs

theorem join_le {sep : List UInt8} {m : Nat} : ∀ {L : List (List UInt8)}, (∀ q ∈ L, q.length ≤ m) → (Lib.join L sep).length ≤ L.length * (m + sep.length)
  | [], _ => by simp [Lib.join_nil]
  | [p], h => by rw [Lib.join_one]; have := h p (by simp); simp; omega
  | p :: q :: L, h => by
    have e : Lib.join (p :: q :: L) sep = p ++ sep ++ Lib.join (q :: L) sep := by
      rw [Lib.join_cons, Lib.join_cons]; simp [Lib.joinTail]
    have ih := join_le (sep := sep) (m := m) (L := q :: L) fun r hr => h r (List.mem_cons_of_mem _ hr)
    have h1 := h p (by simp)
    rw [e, List.length_cons, Nat.succ_mul]
    simp only [List.length_append]; omega
theorem fmtRu_len {T : List Con} (h : ∀ c ∈ T, OkC c) : (fmtRu T).length ≤ T.length * 601 := by
  have := join_le (sep := [44]) (m := 600) (L := T.map fmtT) (fun q hq => by
    obtain ⟨c, hc, rfl⟩ := List.mem_map.1 hq
    exact (fmtT_len (h c hc)).2)
  simpa [fmtRu] using this
theorem fmtR_len {R : List (List Con)} (h : isVR R = true) : (fmtR R).length ≤ 6000 := by
  obtain ⟨h1, h2⟩ := isVR_facts h
  have := join_le (sep := orB) (m := 1803) (L := R.map fmtRu) (fun q hq => by
    obtain ⟨T, hT, rfl⟩ := List.mem_map.1 hq
    have h3 := fmtRu_len (h2 T hT).2
    have := (h2 T hT).1
    omega)
  rw [fmtR, if_pos h]
  simp [orB] at this
  simp only [orB]; omega
theorem strs_app (A B : List (List UInt8)) : strs A ++ strs B = strs (A ++ B) := by simp [strs]
theorem take_snocT {T : List Con} {j : Nat} (h : j < T.length) : strs ((T.take j).map fmtT) ++ [str (fmtT (cg T j))] = strs ((T.take (j + 1)).map fmtT) := by
  have e : cg T j = T[j] := by simp [cg, h]
  rw [List.take_succ_eq_append_getElem h, List.map_append, e]; simp [strs]
theorem take_snocR {R : List (List Con)} {k : Nat} (h : k < R.length) : strs ((R.take k).map fmtRu) ++ [str (fmtRu (rg R k))] = strs ((R.take (k + 1)).map fmtRu) := by
  have e : rg R k = R[k] := by simp [rg, h]
  rw [List.take_succ_eq_append_getElem h, List.map_append, e]; simp [strs]
set_option maxRecDepth 20000 in
set_option maxHeartbeats 8000000 in
theorem Tryz.implFmR_ok (R : List (List Con)) (hR : R.length ≤ 1048576) (hT : ∀ i, i < R.length → (rg R i).length ≤ 1048576) : PCall Tryz.prog 14 [.agg [rR R]] (str (fmtR R)) := by
  have w := Tryz.implVR_ok R hR hT
  have hrl := rules_length R
  refine FCall.pcall (R := fun r _ => r = str (fmtR R)) ?_ 0 (by rintro r H rfl; exact view_str)
  refine FCall.of_body Tryz.func14 rfl (by kernel_rfl) (by simp [Tryz.ntmps14]) ?_
  refine SW_of_vc Tryz.mixed _ _ _ (by kernel_rfl) ?_
  cases hv : isVR R with
  | false =>
    rw [hv] at w
    simp (disch := omega) only [Tryz.ntmps14, Tryz.results14, go_sem, rR]
    refine w.callV 1 (viewL_cons_of view_rule viewL_nil_of) ?_
    simp (disch := omega) only [Tryz.ntmps14, Tryz.results14, go_sem, rR]
    exact Fin.val (by rw [fmtR, hv]; rfl)
  | true =>
  rw [hv] at w
  obtain ⟨⟨hR1, hR3⟩, hok⟩ := isVR_facts hv
  simp (disch := omega) only [Tryz.ntmps14, Tryz.results14, go_sem, rR]
  refine w.callV 1 (viewL_cons_of view_rule viewL_nil_of) ?_
  simp (disch := omega) only [Tryz.ntmps14, Tryz.results14, go_sem, rR]
  refine LoopW.loop (fun p : Nat × Nat × Nat => ⟨ofL [(3, nlG 1 p.2.1 p.1), (13, rR R), (14, .val (.int .i64 R.length)), (15, .val (.int .i64 p.1))], hp (nlGH p.2.1 p.1 (strs ((R.take p.1).map fmtRu))) p.2.2⟩)
    (fun p => p.1 ≤ R.length ∧ (p.1 ≠ 0 → p.2.1 < p.2.2)) (fun p => R.length - p.1) (0, 0, 1) ⟨by simp, fun h => absurd rfl h⟩ (Wk.ofH (by simp only [go_sem, ↓List.forall_mem_cons, List.not_mem_nil, false_implies, implies_true, and_true, true_and, and_self, ri_eq, Int.natCast_add, Int.cast_ofNat_Int, rR, nlG_0]; try simp) (by simp [nlGH]) (by simp [hp])) ?_
  rintro ⟨k, ob, nb⟩ ⟨hk, hob⟩
  simp only at hk hob
  refine SW_of_vc Tryz.mixed _ _ _ (by kernel_rfl) ?_
  by_cases hlt : k < R.length
  · have gk := rules_get hlt
    have gl := rules_load hlt
    obtain ⟨⟨hT1, hT3⟩, hokT⟩ := hok (rg R k) (by simp [rg, hlt])
    have hsnR := take_snocR hlt
    have hruL := fmtRu_len hokT
    have hrkL : (strs ((R.take k).map fmtRu)).length = k := by rw [strs_length, List.length_map, List.length_take]; omega
    have hrkT : (strs ((R.take k).map fmtRu)).take k = strs ((R.take k).map fmtRu) := List.take_of_length_le (by omega)
    have hfu : fmtRu (rg R k) = Lib.join ((rg R k).map fmtT) [44] := rfl
    have wJ := Tryz.strJoin_ok ((rg R k).map fmtT) [44] (by rw [List.length_map]; omega) (by rw [← hfu]; omega)
    rw [← hfu] at wJ
    simp (disch := omega) only [Tryz.ntmps14, Tryz.results14, go_sem, rR, gk, gl, hrl]
    generalize fmtRu (rg R k) = tx at *
    generalize hT0 : rg R k = T at *
    refine LoopW.loop (fun p : Nat × Nat × Nat => ⟨ofL [(3, nlG 1 ob k), (6, nlG 1 p.2.1 p.1), (13, rR R), (14, .val (.int .i64 R.length)), (15, .val (.int .i64 k)), (20, rc T), (21, .val (.int .i64 T.length)), (22, .val (.int .i64 p.1))], hp (nlGH p.2.1 p.1 (strs ((T.take p.1).map fmtT)) ++ nlGH ob k (strs ((R.take k).map fmtRu))) p.2.2⟩)
      (fun p => p.1 ≤ T.length ∧ nb < p.2.2 ∧ (p.1 ≠ 0 → nb < p.2.1 ∧ p.2.1 < p.2.2)) (fun p => T.length - p.1) (0, 0, nb + 1) ⟨by simp, by simp, fun h => absurd rfl h⟩ (Wk.ofH (by simp only [go_sem, ↓List.forall_mem_cons, List.not_mem_nil, false_implies, implies_true, and_true, true_and, and_self, ri_eq, Int.natCast_add, Int.cast_ofNat_Int, rR, rc, nlG_0]; try simp) (by
        rw [nlGH_t (n := 0) rfl, List.nil_append]
        refine nlGH_in fun h => ?_
        have := hob h
        simp (disch := omega) only [hp_map, hmap_cons, if_neg]
        exact nlGH_map h) (Nat.le_refl _)) ?_
    rintro ⟨j, ob2, nb2⟩ ⟨hj, hn2, ho2⟩
    simp only at hj hn2 ho2
    refine SW_of_vc Tryz.mixed _ _ _ (by kernel_rfl) ?_
    by_cases hltj : j < T.length
    · have hld := cons_load (C := T) (k := j) hltj
      have lC := cons_length T
      have wT := Tryz.testText_ok (cg T j) (hokT (cg T j) (by simp [cg, hltj]))
      have hsn := take_snocT hltj
      have hjL : (strs ((T.take j).map fmtT)).length = j := by rw [strs_length, List.length_map, List.length_take]; omega
      have hjT : (strs ((T.take j).map fmtT)).take j = strs ((T.take j).map fmtT) := List.take_of_length_le (by omega)
      have hdel : ∀ x, nb < x → delB (nlGH ob k (strs ((R.take k).map fmtRu))) x = nlGH ob k (strs ((R.take k).map fmtRu)) := fun x hx => delB_nlGH fun h => by have := hob h; omega
      generalize fmtT (cg T j) = tj at *
      generalize strs ((T.take j).map fmtT) = A at *
      generalize hA2 : strs ((T.take (j + 1)).map fmtT) = A2 at *
      generalize strs ((R.take k).map fmtRu) = B at *
      by_cases hz : j = 0
      · have e0 := nlG_t (z := 1) (b := ob2) hz
        have h0 := nlGH_t (b := ob2) (cs := A) hz
        have hA0 : A = [] := List.length_eq_zero_iff.1 (by omega)
        rw [hA0, List.nil_append] at hsn
        have e2 : ∀ b, nlG 1 b (j + 1) = .own b 0 1 1 1 false := fun b => by rw [hz]; rfl
        simp (disch := omega) only [Tryz.ntmps14, Tryz.results14, go_sem, rR, rc, hld, lC, e0, h0, List.nil_append]
        refine wT.callV 1 (viewL_cons_of (view_con) viewL_nil_of) ?_
        simp (disch := omega) only [Tryz.ntmps14, Tryz.results14, go_sem, rR, rc, hld, lC, e0, h0, List.nil_append]
        refine ⟨(j + 1, nb2 + 1 + 1, nb2 + 1 + 1 + 1), ⟨hltj, by show nb < nb2 + 1 + 1 + 1; omega, fun _ => ⟨by show nb < nb2 + 1 + 1; omega, by show nb2 + 1 + 1 < nb2 + 1 + 1 + 1; omega⟩⟩, by show T.length - (j + 1) < T.length - j; omega, Wk.ofH (by simp only [go_sem, ↓List.forall_mem_cons, List.not_mem_nil, false_implies, implies_true, and_true, true_and, and_self, ri_eq, Int.natCast_add, Int.cast_ofNat_Int, rR, rc, e2]; try simp) ?_ (Nat.le_refl _)⟩
        show ∀ q ∈ nlGH (nb2 + 1 + 1) (j + 1) (strs ((T.take (j + 1)).map fmtT)) ++ nlGH ob k B, _
        rw [hA2]
        rw [nlGH_f (by omega), List.cons_append, List.nil_append, List.forall_mem_cons, ← hsn]
        refine ⟨by simp (disch := omega) only [hp_map, hmap_cons, if_pos, if_neg, ↓reduceIte], nlGH_in fun h => ?_⟩
        have := hob h
        simp (disch := omega) only [hp_map, hmap_cons, if_neg]
        exact nlGH_map h
      · have e0 := nlG_f (z := 1) (b := ob2) hz
        have h0 := nlGH_f (b := ob2) (cs := A) hz
        obtain ⟨o1, o2⟩ := ho2 hz
        have hdel2 := hdel ob2 (by omega)
        have e2 : ∀ b, nlG 1 b (j + 1) = .own b 0 (j + 1) (j + 1) 1 false := fun b => nlG_s
        simp (disch := omega) only [Tryz.ntmps14, Tryz.results14, go_sem, rR, rc, hld, lC, e0, h0, List.cons_append, List.nil_append]
        refine wT.callV 1 (viewL_cons_of (view_con) viewL_nil_of) ?_
        simp (disch := omega) only [Tryz.ntmps14, Tryz.results14, go_sem, rR, rc, hld, lC, e0, h0, List.cons_append, List.nil_append, hjL, hjT, hsn, hdel2]
        refine ⟨(j + 1, nb2 + 1 + 1, nb2 + 1 + 1 + 1), ⟨hltj, by show nb < nb2 + 1 + 1 + 1; omega, fun _ => ⟨by show nb < nb2 + 1 + 1; omega, by show nb2 + 1 + 1 < nb2 + 1 + 1 + 1; omega⟩⟩, by show T.length - (j + 1) < T.length - j; omega, Wk.ofH (by simp only [go_sem, ↓List.forall_mem_cons, List.not_mem_nil, false_implies, implies_true, and_true, true_and, and_self, ri_eq, Int.natCast_add, Int.cast_ofNat_Int, rR, rc, e2]; try simp) ?_ (Nat.le_refl _)⟩
        show ∀ q ∈ nlGH (nb2 + 1 + 1) (j + 1) (strs ((T.take (j + 1)).map fmtT)) ++ nlGH ob k B, _
        rw [hA2]
        rw [nlGH_f (by omega), List.cons_append, List.nil_append, List.forall_mem_cons]
        refine ⟨by simp (disch := omega) only [hp_map, hmap_cons, if_pos, if_neg, ↓reduceIte], nlGH_in fun h => ?_⟩
        have := hob h
        simp (disch := omega) only [hp_map, hmap_cons, if_neg]
        exact nlGH_map h
    · obtain rfl : j = T.length := by omega
      have hz : T.length ≠ 0 := by omega
      obtain ⟨o1, o2⟩ := ho2 hz
      have e0 := nlG_f (z := 1) (b := ob2) hz
      have h0 := nlGH_f (b := ob2) (cs := strs ((T.take T.length).map fmtT)) hz
      rw [List.take_length] at h0
      have hTl : T.length = (T.map fmtT).length := by simp
      generalize strs ((R.take k).map fmtRu) = B at *
      generalize hB2 : strs ((R.take (k + 1)).map fmtRu) = B2 at *
      by_cases hkz : k = 0
      · have f0 := nlG_t (z := 1) (b := ob) hkz
        have g0 := nlGH_t (b := ob) (cs := B) hkz
        have hB0 : B = [] := List.length_eq_zero_iff.1 (by omega)
        rw [hB0, List.nil_append] at hsnR
        have e2 : ∀ b, nlG 1 b (k + 1) = .own b 0 1 1 1 false := fun b => by rw [hkz]; rfl
        simp (disch := omega) only [Tryz.ntmps14, Tryz.results14, go_sem, rR, rc, e0, h0, f0, g0, List.take_length, List.append_nil]
        refine wJ.callV 1 (viewL_cons_of (view_ownS (L := T.map fmtT) (e2 := false) (by first | rfl | (simp (disch := omega) only [hx_map, hp_map, xmap_blk, hmap_cons, xmap_skipI, xmap_nil, if_pos, if_neg, ↓reduceIte]; try rfl)) hTl) (viewL_cons_of view_str viewL_nil_of)) ?_
        simp (disch := omega) only [Tryz.ntmps14, Tryz.results14, go_sem, rR, rc, e0, h0, f0, g0, List.append_nil]
        refine ⟨(k + 1, nb2 + 1, nb2 + 1 + 1), ⟨hlt, fun _ => by show nb2 + 1 < nb2 + 1 + 1; omega⟩, by show R.length - (k + 1) < R.length - k; omega, Wk.ofH (by simp only [go_sem, ↓List.forall_mem_cons, List.not_mem_nil, false_implies, implies_true, and_true, true_and, and_self, ri_eq, Int.natCast_add, Int.cast_ofNat_Int, rR, e2]; try simp) ?_ (Nat.le_refl _)⟩
        refine nlGH_in fun _ => ?_
        show _ = some (Blk.mk (strs ((R.take (k + 1)).map fmtRu)) false)
        rw [hB2, ← hsnR]
        simp (disch := omega) only [hp_map, hmap_cons, if_pos, if_neg, ↓reduceIte]
      · have f0 := nlG_f (z := 1) (b := ob) hkz
        have g0 := nlGH_f (b := ob) (cs := B) hkz
        have := hob hkz
        have e2 : ∀ b, nlG 1 b (k + 1) = .own b 0 (k + 1) (k + 1) 1 false := fun b => nlG_s
        simp (disch := omega) only [Tryz.ntmps14, Tryz.results14, go_sem, rR, rc, e0, h0, f0, g0, List.take_length, List.cons_append, List.nil_append]
        refine wJ.callV 1 (viewL_cons_of (view_ownS (L := T.map fmtT) (e2 := false) (by first | rfl | (simp (disch := omega) only [hx_map, hp_map, xmap_blk, hmap_cons, xmap_skipI, xmap_nil, if_pos, if_neg, ↓reduceIte]; try rfl)) hTl) (viewL_cons_of view_str viewL_nil_of)) ?_
        simp (disch := omega) only [Tryz.ntmps14, Tryz.results14, go_sem, rR, rc, e0, h0, f0, g0, List.cons_append, List.nil_append, hsnR, hrkL, hrkT]
        refine ⟨(k + 1, nb2 + 1, nb2 + 1 + 1), ⟨hlt, fun _ => by show nb2 + 1 < nb2 + 1 + 1; omega⟩, by show R.length - (k + 1) < R.length - k; omega, Wk.ofH (by simp only [go_sem, ↓List.forall_mem_cons, List.not_mem_nil, false_implies, implies_true, and_true, true_and, and_self, ri_eq, Int.natCast_add, Int.cast_ofNat_Int, rR, e2]; try simp) ?_ (Nat.le_refl _)⟩
        refine nlGH_in fun _ => ?_
        show _ = some (Blk.mk (strs ((R.take (k + 1)).map fmtRu)) false)
        rw [hB2]
        simp (disch := omega) only [hp_map, hmap_cons, if_pos, if_neg, ↓reduceIte]
  · obtain rfl : k = R.length := by omega
    have hz : R.length ≠ 0 := by omega
    have e0 := nlG_f (z := 1) (b := ob) hz
    have h0 := nlGH_f (b := ob) (cs := strs ((R.take R.length).map fmtRu)) hz
    rw [List.take_length] at h0
    have hRl : R.length = (R.map fmtRu).length := by simp
    have hfr : fmtR R = Lib.join (R.map fmtRu) orB := by rw [fmtR, if_pos hv]
    have hle := fmtR_len hv
    have wJ : PCall Tryz.prog 34 [rst (R.map fmtRu), str [32, 111, 114, 32]] (str (Lib.join (R.map fmtRu) orB)) := Tryz.strJoin_ok (R.map fmtRu) orB (by rw [List.length_map]; omega) (by rw [← hfr]; omega)
    rw [← hfr] at wJ
    simp (disch := omega) only [Tryz.ntmps14, Tryz.results14, go_sem, rR, e0, h0, List.take_length]
    refine wJ.callV 1 (viewL_cons_of (view_ownS (L := R.map fmtRu) (e2 := false) (by first | rfl | (simp (disch := omega) only [hx_map, hp_map, xmap_blk, hmap_cons, xmap_skipI, xmap_nil, if_pos, if_neg, ↓reduceIte]; try rfl)) hRl) (viewL_cons_of view_str viewL_nil_of)) ?_
    simp (disch := omega) only [Tryz.ntmps14, Tryz.results14, go_sem, rR]
    exact Fin.val rfl
end Go.Sh

/-
  Contracts: an item moved to another block. Of the program.
-/
namespace Go.Sh
set_option linter.unusedSimpArgs false
set_option linter.unusedVariables false
open Go Go.Proofs

def top (L : List Int) (k : Nat) : Int := (L.take k).foldl max (-1)
theorem top_zero (L : List Int) : top L 0 = -1 := rfl
theorem top_succ {L : List Int} {k : Nat} (h : k < L.length) : top L (k + 1) = max (top L k) (L.getD k 0) := by
  rw [top, List.take_succ_eq_append_getElem h, List.foldl_append]
  simp [top, h]
theorem top_ge (L : List Int) : ∀ k, k ≤ L.length → -1 ≤ top L k
  | 0, _ => by rw [top_zero]; omega
  | k + 1, h => by
    have := top_ge L k (by omega)
    rw [top_succ (by omega)]; omega
theorem top_part {L : List Int} (h : isPart L = true) : ∀ k, k ≤ L.length → top L k ≤ 7
  | 0, _ => by rw [top_zero]; omega
  | k + 1, hk => by
    have := top_part h k (by omega)
    have := (isPart_bound h (i := k) (by omega)).2
    rw [top_succ (by omega)]; omega
def moveOk (L : List Int) (it bl : Int) : Bool := isPart L && (inR it 0 ((L.length : Int) - 1) && inR bl 0 (top L L.length + 1))
def moveTo (L : List Int) (it bl : Int) : List Int := if moveOk L it bl = true then canon (L.set it.toNat bl) else L
theorem moveTo_length (L : List Int) (it bl : Int) : (moveTo L it bl).length = L.length := by
  unfold moveTo
  split
  · rw [canon_length]; simp
  · rfl

theorem fin_tup {n z cap b : Nat} {ex e2 : Bool} {cs : List SV} {u : Value} {H : Heap} (hn : cs.length = n * z) (hv : cs.all isVal = true) (hb : H.map b = some ⟨cs, e2⟩) :
    Fin (fun r H => ∃ r0, r = .tup [r0, .val u] ∧ FlatRes n z cs r0 H) (.tup [.own b 0 n cap z ex, .val u]) H := by
  obtain ⟨H2, h1, _, h3, h4⟩ := flat_fin (ex := ex) (cap := cap) hn hv hb
  exact ⟨H2, h1, by simp [noRow, noRowL], h3, _, rfl, h4⟩

end Go.Sh

/-
  Drawing numbers from bytes: the cursor, a byte, a number below a bound, one of a list.
-/
namespace Go.Sh
set_option linter.unusedSimpArgs false
set_option linter.unusedVariables false
open Go Go.Proofs

def bys (B : List Int) : List SV := B.map fun b => .val (.int .u8 b)
def rby (B : List Int) : SV := .row B.length false (bys B)
theorem bys_length (B : List Int) : (bys B).length = B.length := by simp [bys]
theorem bys_get {B : List Int} {i : Nat} (h : i < B.length) : (bys B)[i]? = some (.val (.int .u8 (B.getD i 0))) := by simp [bys, h]
def curB (B : List Int) (i : Nat) (h : Int) : Blk := ⟨[rby B, .val (.int .i64 i), .val (.int .i64 h)], true⟩
def Cur (B : List Int) (H : Heap) (cb : Nat) : Prop := ∃ (i : Nat) (h : Int), i ≤ B.length ∧ H.map cb = some (curB B i h)
/-- The cursor has moved, nothing else. -/
def CurS (B : List Int) (H : Heap) (cb : Nat) (H' : Heap) : Prop := ∃ (i : Nat) (h : Int), i ≤ B.length ∧ H' = H.set cb (some (curB B i h))
theorem hset_set (H : Heap) (b : Nat) (x y : Option Blk) : (H.set b x).set b y = H.set b y := by
  refine Heap.ext' (fun z => ?_) rfl
  simp only [hset_map]
  split <;> rfl
theorem CurS.cur {B : List Int} {H H' : Heap} {cb : Nat} (h : CurS B H cb H') : Cur B H' cb := by
  obtain ⟨i, x, hi, rfl⟩ := h
  exact ⟨i, x, hi, by rw [hset_map, if_pos rfl]⟩
theorem CurS.trans {B : List Int} {H H' H'' : Heap} {cb : Nat} (h : CurS B H cb H') (g : CurS B H' cb H'') : CurS B H cb H'' := by
  obtain ⟨i, x, hi, rfl⟩ := h
  obtain ⟨k, y, hk, rfl⟩ := g
  exact ⟨k, y, hk, hset_set _ _ _ _⟩
theorem Cur.s {B : List Int} {H : Heap} {cb : Nat} (h : Cur B H cb) : CurS B H cb H := by
  obtain ⟨i, x, hi, e⟩ := h
  exact ⟨i, x, hi, (Heap.set_self e).symm⟩
theorem CurS.nb {B : List Int} {H H' : Heap} {cb : Nat} (h : CurS B H cb H') : H'.nb = H.nb := by obtain ⟨i, x, hi, rfl⟩ := h; rfl
theorem CurS.map {B : List Int} {H H' : Heap} {cb b : Nat} (h : CurS B H cb H') (hb : b ≠ cb) : H'.map b = H.map b := by obtain ⟨i, x, hi, rfl⟩ := h; rw [hset_map, if_neg hb]
theorem kand255 (x : Int) : 0 ≤ kand .i64 x 255 ∧ kand .i64 x 255 ≤ 255 := by
  have h : ((BitVec.ofInt 64 x) &&& (BitVec.ofInt 64 255)).toNat ≤ 255 := by
    rw [BitVec.toNat_and]
    exact Nat.le_trans Nat.and_le_right (by decide)
  generalize hn : ((BitVec.ofInt 64 x) &&& (BitVec.ofInt 64 255)).toNat = n at *
  have e : kand .i64 x 255 = IntKind.i64.wrap (n : Int) := by rw [← hn]; rfl
  rw [e, wrap_id (by omega) (by omega)]; omega

def NewQ (B : List Int) (H : Heap) (r : SV) (H' : Heap) : Prop := ∃ h, r = .optr H.nb 0 ∧ H' = H.push (curB B 0 h)
set_option maxHeartbeats 2000000 in
theorem Tryz.l1New_ok (B : List Int) (hB : B.length ≤ 1048576) (H : Heap) : CallS Tryz.prog 21 [rby B] H (NewQ B H) := by
  have hfin : ∀ h : Int, NewQ B H (SV.optr H.nb 0) (H.push ⟨[.row B.length false (bys B), .val (.int .i64 0), .val (.int .i64 h)], true⟩) := fun h => ⟨h, rfl, rfl⟩
  refine CallS.of_body Tryz.func21 rfl (by kernel_rfl) (by simp [Tryz.ntmps21]) ?_
  refine SW_of_vc Tryz.mixed _ _ _ (by kernel_rfl) ?_
  simp (disch := omega) only [Tryz.ntmps21, Tryz.results21, go_sem, rby]
  refine LoopW.loop (fun y : Nat × Int => ⟨ofL [(0, rby B), (3, .val (.int .i64 y.2)), (4, .val (.int .i64 y.1))], H⟩) (fun y => y.1 ≤ B.length) (fun y => B.length - y.1) (0, 10101 + B.length) (by simp) (Wk.of (by simp only [go_sem, ↓List.forall_mem_cons, List.not_mem_nil, false_implies, implies_true, and_true, true_and, and_self, ri_eq, Int.natCast_add, Int.cast_ofNat_Int, rby]; try simp) rfl) ?_
  rintro ⟨i, h⟩ hi
  simp only at hi
  refine SW_of_vc Tryz.mixed _ _ _ (by kernel_rfl) ?_
  by_cases hlt : i < B.length
  · have gb := bys_get hlt
    by_cases h4 : i < 4000
    · simp (disch := omega) only [Tryz.ntmps21, Tryz.results21, go_sem, rby, gb]
      exact ⟨(i + 1, kand .i64 (IntKind.i64.wrap (IntKind.i64.wrap (IntKind.i64.wrap (h * 131) + IntKind.i64.wrap (B.getD i 0)) + 7)) 1073741823), hlt, by show B.length - (i + 1) < B.length - i; omega, Wk.of (by simp only [go_sem, ↓List.forall_mem_cons, List.not_mem_nil, false_implies, implies_true, and_true, true_and, and_self, ri_eq, Int.natCast_add, Int.cast_ofNat_Int, rby]; try simp) rfl⟩
    · simp (disch := omega) only [Tryz.ntmps21, Tryz.results21, go_sem, rby, gb]
      exact hfin h
  · simp (disch := omega) only [Tryz.ntmps21, Tryz.results21, go_sem, rby]
    exact hfin h

def ByteQ (B : List Int) (H : Heap) (cb : Nat) (r : SV) (H' : Heap) : Prop := ∃ v : Int, r = .val (.int .i64 v) ∧ 0 ≤ v ∧ v ≤ 255 ∧ CurS B H cb H'
set_option maxHeartbeats 2000000 in
theorem Tryz.l1Byte_ok (B : List Int) (hB : B.length ≤ 1048576) (H : Heap) (cb : Nat) (hc : Cur B H cb) : CallS Tryz.prog 63 [.optr cb 0] H (ByteQ B H cb) := by
  obtain ⟨i, h, hi, hm⟩ := hc
  rw [curB] at hm
  refine CallS.of_body Tryz.func63 rfl (by kernel_rfl) (by simp [Tryz.ntmps63]) ?_
  refine SW_of_vc Tryz.mixed _ _ _ (by kernel_rfl) ?_
  by_cases hlt : i < B.length
  · have gb := bys_get hlt
    simp (disch := omega) only [Tryz.ntmps63, Tryz.results63, go_sem, rby, hm, hset_map, gb]
    have hk := kand255
    exact ⟨_, rfl, (hk _).1, (hk _).2, i + 1, _, hlt, hset_set _ _ _ _⟩
  · simp (disch := omega) only [Tryz.ntmps63, Tryz.results63, go_sem, rby, hm, hset_map]
    have hk := kand255
    exact ⟨_, rfl, (hk _).1, (hk _).2, i, _, hi, rfl⟩

def BelowQ (B : List Int) (n : Int) (H : Heap) (cb : Nat) (r : SV) (H' : Heap) : Prop := ∃ v : Int, r = .val (.int .i64 v) ∧ 0 ≤ v ∧ (0 < n → v < n) ∧ (n ≤ 0 → v = 0) ∧ CurS B H cb H'
set_option maxHeartbeats 2000000 in
theorem Tryz.l1Below_ok (B : List Int) (hB : B.length ≤ 1048576) (n : Int) (hn : n ≤ 256) (H : Heap) (cb : Nat) (hc : Cur B H cb) : CallS Tryz.prog 42 [.optr cb 0, .val (.int .i64 n)] H (BelowQ B n H cb) := by
  have w := Tryz.l1Byte_ok B hB H cb hc
  refine CallS.of_body Tryz.func42 rfl (by kernel_rfl) (by simp [Tryz.ntmps42]) ?_
  refine SW_of_vc Tryz.mixed _ _ _ (by kernel_rfl) ?_
  by_cases h0 : n ≤ 0
  · have hfin : BelowQ B n H cb (.val (.int .i64 0)) H := ⟨0, rfl, by omega, by omega, fun _ => rfl, hc.s⟩
    simp (disch := omega) only [Tryz.ntmps42, Tryz.results42, go_sem]
    exact hfin
  · simp (disch := omega) only [Tryz.ntmps42, Tryz.results42, go_sem]
    refine w.callX ?_
    rintro r H' ⟨v, rfl, v0, v1, hs⟩
    have h1 : 0 ≤ v.tmod n := Int.tmod_nonneg n v0
    have h2 : v.tmod n < n := Int.tmod_lt_of_pos v (by omega)
    have hfin : BelowQ B n H cb (.val (.int .i64 (v.tmod n))) H' := ⟨_, rfl, h1, fun _ => h2, fun h => by omega, hs⟩
    have hne : ¬ n = 0 := by omega
    simp (disch := omega) only [Tryz.ntmps42, Tryz.results42, go_sem, hne]
    exact hfin
theorem BelowQ.ne {B : List Int} {n : Int} {H : Heap} {cb : Nat} (hc : Cur B H cb) : ∃ r H', BelowQ B n H cb r H' := ⟨_, H, 0, rfl, by omega, fun h => h, fun _ => rfl, hc.s⟩

def OnceQ (B : List Int) (H : Heap) (cb : Nat) (r : SV) (H' : Heap) : Prop := ∃ b : Bool, r = .val (.bool b) ∧ CurS B H cb H'
theorem OnceQ.ne {B : List Int} {H : Heap} {cb : Nat} (hc : Cur B H cb) : ∃ r H', OnceQ B H cb r H' := ⟨_, H, true, rfl, hc.s⟩
theorem Tryz.l1Once_ok (B : List Int) (hB : B.length ≤ 1048576) (n : Int) (hn : n ≤ 256) (H : Heap) (cb : Nat) (hc : Cur B H cb) : CallS Tryz.prog 61 [.optr cb 0, .val (.int .i64 n)] H (OnceQ B H cb) := by
  have w := Tryz.l1Below_ok B hB n hn H cb hc
  refine CallS.of_body Tryz.func61 rfl (by kernel_rfl) (by simp [Tryz.ntmps61]) ?_
  refine SW_of_vc Tryz.mixed _ _ _ (by kernel_rfl) ?_
  simp (disch := omega) only [Tryz.ntmps61, Tryz.results61, go_sem]
  refine w.callX ?_
  rintro r H' ⟨v, rfl, v0, v1, v2, hs⟩
  have hfin : ∀ b, OnceQ B H cb (.val (.bool b)) H' := fun b => ⟨b, rfl, hs⟩
  simp (disch := omega) only [Tryz.ntmps61, Tryz.results61, go_sem]
  exact hfin _

def PickQ (B : List Int) (L : List Int) (H : Heap) (cb : Nat) (r : SV) (H' : Heap) : Prop := ∃ v : Int, r = .val (.int .i64 v) ∧ v ∈ L ∧ CurS B H cb H'
theorem PickQ.ne {B L : List Int} {H : Heap} {cb : Nat} (hL : L ≠ []) (hc : Cur B H cb) : ∃ r H', PickQ B L H cb r H' := ⟨_, H, L.head hL, rfl, List.head_mem hL, hc.s⟩
theorem Tryz.l1Pick_ok (B : List Int) (hB : B.length ≤ 1048576) (L : List Int) (hL : L ≠ []) (hl : L.length ≤ 256) (H : Heap) (cb lb : Nat) (ex e2 : Bool) (hc : Cur B H cb) (hb : H.map lb = some ⟨ints L, e2⟩) (hne : lb ≠ cb) :
    CallS Tryz.prog 43 [.optr cb 0, .own lb 0 L.length L.length 1 ex] H (PickQ B L H cb) := by
  have w := Tryz.l1Below_ok B hB L.length (by omega) H cb hc
  have hl0 : 0 < L.length := List.length_pos_iff.2 hL
  refine CallS.of_body Tryz.func43 rfl (by kernel_rfl) (by simp [Tryz.ntmps43]) ?_
  refine SW_of_vc Tryz.mixed _ _ _ (by kernel_rfl) ?_
  simp (disch := omega) only [Tryz.ntmps43, Tryz.results43, go_sem]
  refine w.callX ?_
  rintro r H' ⟨v, rfl, v0, v1, v2, hs⟩
  have v1 := v1 (by omega)
  obtain ⟨x, rfl⟩ := Int.eq_ofNat_of_zero_le v0
  have hx : x < L.length := by omega
  have hm : H'.map lb = some ⟨ints L, e2⟩ := by rw [hs.map hne, hb]
  have gx : (ints L)[x]? = some (.val (.int .i64 (L.getD x 0))) := ints_get hx
  have hfin : PickQ B L H cb (.val (.int .i64 (L.getD x 0))) H' := ⟨_, rfl, by simp [hx], hs⟩
  simp (disch := omega) only [Tryz.ntmps43, Tryz.results43, go_sem, hm, gx]
  exact hfin
end Go.Sh

/-
  Drawing a matrix.
-/
namespace Go.Sh
set_option linter.unusedSimpArgs false
set_option linter.unusedVariables false
open Go Go.Proofs

/-- A list of rows in memory of its own, from the name lo on. -/
structure MatH (H : Heap) (lo ob : Nat) (cs : List SV) (nm : Nat → Nat) (M : List (List Int)) : Prop where
  ln : cs.length = M.length
  o : H.map ob = some ⟨cs, false⟩
  row : ∀ i, i < M.length → ∃ e e2, cs[i]? = some (.own (nm i) 0 (mrow M i).length (mrow M i).length 1 e) ∧ H.map (nm i) = some ⟨ints (mrow M i), e2⟩
  inj : ∀ i j, i < M.length → j < M.length → nm i = nm j → i = j
  lo1 : lo ≤ ob ∧ ob < H.nb
  lo2 : ∀ i, i < M.length → lo ≤ nm i ∧ nm i < H.nb ∧ nm i ≠ ob
theorem MatH.fr {H H' : Heap} {lo ob : Nat} {cs : List SV} {nm : Nat → Nat} {M : List (List Int)} (h : MatH H lo ob cs nm M) (hn : H.nb ≤ H'.nb) (hf : ∀ b, lo ≤ b → b < H.nb → H'.map b = H.map b) : MatH H' lo ob cs nm M := by
  refine ⟨h.ln, by rw [hf _ h.lo1.1 h.lo1.2, h.o], fun i hi => ?_, h.inj, ⟨h.lo1.1, by have := h.lo1.2; omega⟩, fun i hi => ?_⟩
  · obtain ⟨e, e2, h1, h2⟩ := h.row i hi
    obtain ⟨k1, k2, k3⟩ := h.lo2 i hi
    exact ⟨e, e2, h1, by rw [hf _ k1 k2, h2]⟩
  · obtain ⟨k1, k2, k3⟩ := h.lo2 i hi
    exact ⟨k1, by omega, k3⟩
theorem MatH.low {H : Heap} {lo lo2 ob : Nat} {cs : List SV} {nm : Nat → Nat} {M : List (List Int)} (h : MatH H lo ob cs nm M) (hl : lo2 ≤ lo) : MatH H lo2 ob cs nm M :=
  ⟨h.ln, h.o, h.row, h.inj, ⟨by have := h.lo1; omega, h.lo1.2⟩, fun i hi => by have := h.lo2 i hi; exact ⟨by omega, this.2⟩⟩
theorem mrow_lt {M N : List (List Int)} {i : Nat} (h : i < M.length) : mrow (M ++ N) i = mrow M i := by simp [mrow, h, List.getElem?_append_left h]
theorem mrow_at {M : List (List Int)} {L : List Int} : mrow (M ++ [L]) M.length = L := by simp [mrow]
theorem MatH.snoc {H H' : Heap} {lo ob ob' r l : Nat} {cs : List SV} {nm : Nat → Nat} {M : List (List Int)} {L : List Int} {e e2 : Bool} (h : MatH H lo ob cs nm M) (hl : l = L.length) (ho : H'.map ob' = some ⟨cs ++ [.own r 0 l l 1 e], false⟩) (hr : H'.map r = some ⟨ints L, e2⟩)
    (hf : ∀ b, lo ≤ b → b < H.nb → b ≠ ob → H'.map b = H.map b) (hn : H.nb ≤ H'.nb) (h1 : H.nb ≤ ob' ∧ ob' < H'.nb) (h2 : H.nb ≤ r ∧ r < H'.nb) (hne : r ≠ ob') : MatH H' lo ob' (cs ++ [.own r 0 l l 1 e]) (fun i => if i < M.length then nm i else r) (M ++ [L]) := by
  subst hl
  have hlo := h.lo1
  refine ⟨by simp [h.ln], ho, fun i hi => ?_, fun i j hi hj hij => ?_, ⟨by omega, h1.2⟩, fun i hi => ?_⟩
  · by_cases hlt : i < M.length
    · obtain ⟨e, e2, g1, g2⟩ := h.row i hlt
      obtain ⟨k1, k2, k3⟩ := h.lo2 i hlt
      refine ⟨e, e2, ?_, ?_⟩
      · rw [List.getElem?_append_left (by rw [h.ln]; exact hlt), g1, mrow_lt hlt, if_pos hlt]
      · rw [if_pos hlt, mrow_lt hlt, hf _ k1 k2 k3, g2]
    · have : i = M.length := by simp at hi; omega
      subst this
      exact ⟨e, e2, by rw [mrow_at, if_neg (by omega), ← h.ln]; simp, by rw [if_neg (by omega), mrow_at, hr]⟩
  · simp only [List.length_append, List.length_singleton] at hi hj
    by_cases a : i < M.length <;> by_cases b : j < M.length
    · simp only [a, b, if_true] at hij; exact h.inj i j a b hij
    · simp only [a, b, if_true, if_false] at hij
      have := h.lo2 i a; omega
    · simp only [a, b, if_true, if_false] at hij
      have := h.lo2 j b; omega
    · omega
  · simp only [List.length_append, List.length_singleton] at hi
    show lo ≤ (if i < M.length then nm i else r) ∧ (if i < M.length then nm i else r) < H'.nb ∧ (if i < M.length then nm i else r) ≠ ob'
    split
    · rename_i a
      have := h.lo2 i a
      exact ⟨this.1, by omega, by omega⟩
    · exact ⟨by omega, h2.2, hne⟩
theorem mset_row_ne {M : List (List Int)} {i k j : Nat} {x : Int} (h : j ≠ i) : mrow (mset M i k x) j = mrow M j := by
  simp [mrow, mset, List.getElem?_set, Ne.symm h]
theorem mset_row_eq {M : List (List Int)} {i k : Nat} {x : Int} (h : i < M.length) : mrow (mset M i k x) i = (mrow M i).set k x := by
  simp [mrow, mset, List.getElem?_set, h]
theorem MatH.set {H : Heap} {lo ob i k : Nat} {cs : List SV} {nm : Nat → Nat} {M : List (List Int)} {x : Int} {e2 : Bool} (h : MatH H lo ob cs nm M) (hi : i < M.length) : MatH (H.set (nm i) (some ⟨ints ((mrow M i).set k x), e2⟩)) lo ob cs nm (mset M i k x) := by
  have hl : (mset M i k x).length = M.length := mset_length ..
  have hi2 := h.lo2 i hi
  refine ⟨by rw [hl, h.ln], by rw [hset_map, if_neg (by omega), h.o], fun j hj => ?_, fun a b ha hb => h.inj a b (by omega) (by omega), h.lo1, fun j hj => h.lo2 j (by omega)⟩
  rw [hl] at hj
  obtain ⟨e, e3, h1, h2⟩ := h.row j hj
  by_cases hji : j = i
  · subst hji
    rw [mset_row_eq hi, List.length_set]
    exact ⟨e, e2, h1, by rw [hset_map, if_pos rfl]⟩
  · rw [mset_row_ne hji]
    exact ⟨e, e3, h1, by rw [hset_map, if_neg (fun g => hji (h.inj _ _ hj hi g)), h2]⟩
/-- The part of a heap from a name on. -/
def Heap.frm (H : Heap) (n : Nat) : Heap := ⟨fun b => if n ≤ b then H.map b else none, H.nb⟩
theorem frm_map (H : Heap) (n b : Nat) : (H.frm n).map b = if n ≤ b then H.map b else none := rfl
theorem MatH.view {H : Heap} {lo ob : Nat} {cs : List SV} {nm : Nat → Nat} {M : List (List Int)} {f cap : Nat} {e : Bool} (h : MatH H lo ob cs nm M) : view (H.frm lo) (f + 2) (.own ob 0 M.length cap 1 e) = some (rr M) := by
  have ho : (H.frm lo).map ob = some ⟨cs, false⟩ := by rw [frm_map, if_pos h.lo1.1, h.o]
  have hL : viewL (H.frm lo) (f + 1) cs = some (rows M) := by
    have hr : ∀ i, i < M.length → ∃ s, cs[i]? = some s ∧ Sh.view (H.frm lo) (f + 1) s = some (ri (mrow M i)) := fun i hi => by
      obtain ⟨e, e2, h1, h2⟩ := h.row i hi
      have k := h.lo2 i hi
      exact ⟨_, h1, view_own (L := mrow M i) (e2 := e2) (by rw [frm_map, if_pos k.1, h2]) rfl⟩
    have hln := h.ln
    clear h ho
    induction cs generalizing M with
    | nil =>
      have : M = [] := List.length_eq_zero_iff.1 hln.symm
      subst this
      exact viewL_nil_of
    | cons s cs ih =>
      cases M with
      | nil => simp at hln
      | cons L M =>
        refine viewL_cons_of ?_ (ih (M := M) (fun i hi => ?_) (by simpa using hln))
        · obtain ⟨s', h1, h2⟩ := hr 0 (by simp)
          simp at h1; subst h1
          exact h2
        · obtain ⟨s', h1, h2⟩ := hr (i + 1) (by simpa using hi)
          exact ⟨s', by simpa using h1, h2⟩
  simp only [Sh.view, ho, Nat.mul_one, List.drop_zero]
  have hle : M.length ≤ cs.length := by rw [h.ln]; omega
  rw [if_pos (by omega), ← h.ln, List.take_length, hL]
  simp only [rr, h.ln]
/-- What a drawing leaves behind. -/
structure DS (B : List Int) (cb : Nat) (H H' : Heap) : Prop where
  cur : Cur B H' cb
  nb : H.nb ≤ H'.nb
  fr : ∀ b, b < H.nb → b ≠ cb → H'.map b = H.map b
theorem DS.refl {B : List Int} {cb : Nat} {H : Heap} (h : Cur B H cb) : DS B cb H H := ⟨h, Nat.le_refl _, fun _ _ _ => rfl⟩
theorem DS.trans {B : List Int} {cb : Nat} {H H1 H2 : Heap} (h : DS B cb H H1) (g : DS B cb H1 H2) : DS B cb H H2 :=
  ⟨g.cur, Nat.le_trans h.nb g.nb, fun b hb hc => by rw [g.fr b (Nat.lt_of_lt_of_le hb h.nb) hc, h.fr b hb hc]⟩
theorem CurS.ds {B : List Int} {cb : Nat} {H H' : Heap} (h : CurS B H cb H') : DS B cb H H' := ⟨h.cur, by rw [h.nb]; exact Nat.le_refl _, fun b _ hc => h.map hc⟩
theorem DS.push {B : List Int} {cb : Nat} {H : Heap} (h : Cur B H cb) (hc : cb < H.nb) (k : Blk) : DS B cb H (H.push k) := by
  obtain ⟨i, x, hi, e⟩ := h
  exact ⟨⟨i, x, hi, by rw [hpush_map, if_neg (by omega), e]⟩, by rw [hpush_nb]; omega, fun b hb _ => by rw [hpush_map, if_neg (by omega)]⟩
theorem DS.setF {B : List Int} {cb : Nat} {H H1 : Heap} (h : DS B cb H H1) (b : Nat) (hb : H.nb ≤ b) (hc : b ≠ cb) (k : Option Blk) : DS B cb H (H1.set b k) := by
  obtain ⟨i, x, hi, e⟩ := h.cur
  exact ⟨⟨i, x, hi, by rw [hset_map, if_neg (Ne.symm hc), e]⟩, h.nb, fun z hz hzc => by rw [hset_map, if_neg (by omega), h.fr z hz hzc]⟩
theorem repI2 : rep [SV.val (.int .i64 0)] 2 = [SV.val (.int .i64 0), SV.val (.int .i64 0)] := rfl
theorem repI3 : rep [SV.val (.int .i64 0)] 3 = [SV.val (.int .i64 0), SV.val (.int .i64 0), SV.val (.int .i64 0)] := rfl
theorem repI6 : rep [SV.val (.int .i64 0)] 6 = [SV.val (.int .i64 0), SV.val (.int .i64 0), SV.val (.int .i64 0), SV.val (.int .i64 0), SV.val (.int .i64 0), SV.val (.int .i64 0)] := rfl
theorem repI10 : rep [SV.val (.int .i64 0)] 10 = [SV.val (.int .i64 0), SV.val (.int .i64 0), SV.val (.int .i64 0), SV.val (.int .i64 0), SV.val (.int .i64 0), SV.val (.int .i64 0), SV.val (.int .i64 0), SV.val (.int .i64 0), SV.val (.int .i64 0), SV.val (.int .i64 0)] := rfl
attribute [go_sem high] repI2 repI3 repI6 repI10
end Go.Sh

/-
  Results that are known as contents of some kind alone.
-/
namespace Go.Sh
set_option linter.unusedSimpArgs false
set_option linter.unusedVariables false
open Go Go.RowKit Go.Proofs

section
variable {P : Program}
/-- f writes nothing that came in; its result reads as one of S, in memory of its own. -/
def PCallE (P : Program) (f : FuncId) (args : List SV) (S : SV → Prop) : Prop :=
  Enters P f ∧ ∀ w vs, LRel (fun _ => False) w noj args vs → TabOk (fun _ => False) w → Calls P f vs.toArray w (fun e w' => ∃ v T, S T ∧ e = .returned v ∧ Below w.heap.size w w' ∧ VRel (fun k => k < w.heap.size) w' noj T v)
theorem FCall.pcallE {f : FuncId} {args : List SV} {R : SV → Heap → Prop} {S : SV → Prop} (h : FCall P f args R) (fu : Nat) (hr : ∀ r H, R r H → ∃ T, view H fu r = some T ∧ S T) : PCallE P f args S := by
  refine ⟨h.1, fun w vs hl ht => (h.2 w vs hl ht).mono ?_⟩
  rintro e w' ⟨v, r, j, H, h1, h2, h3, h4, h5, h6, h7, h8⟩
  have hlive : Live (fun k => k < w.heap.size) j H w' := h3.liveN h7 (fun k hk => by have := h5 k hk; omega)
  obtain ⟨T, k1, k2⟩ := hr r H h8
  exact ⟨v, T, k2, h1, h2, view_sound hlive fu r T v k1 (VRel.anyO r v h6 h4)⟩
theorem PCallE.callE {f : FuncId} {args args' : List SV} {S : SV → Prop} {H : Heap} {K : SV → Heap → Prop} (h : PCallE P f args' S) (fu : Nat) (hv : viewL H fu args = some args') (k : ∀ T, S T → K T H) : @CallX P f args H ⟨K⟩ := by
  refine ⟨h.1, fun j w vs r hl => ?_⟩
  have hl' := viewL_sound r.live0 fu args args' vs hv (LRel.tr (Tr.weaken w (fun _ h => h.elim)) (fun _ _ h => h) args vs hl)
  refine (h.2 w vs hl' (r.tab.tr (Tr.weaken w (fun _ h => h.elim)))).mono ?_
  rintro e w' ⟨v, T, hS, h1, h2, h3⟩
  obtain ⟨r', nx⟩ := r.below h2
  refine ⟨T, v, j, H, h1, r', ?_, nx, k T hS⟩
  exact VRel.tr (Tr.weaken w' (fun k hk => r.own_lt hk)) (by intro b p h; simp [noj] at h) T v h3
end
/-- A matrix, constraints, labels: what a drawing gives back. -/
def R3 (S : SV → Prop) (r : SV) (H : Heap) : Prop := ∃ T, view H 3 r = some T ∧ S T
def part (H : Heap) (p : Nat → Prop) [DecidablePred p] : Heap := ⟨fun b => if p b then H.map b else none, H.nb⟩
theorem part_sub (H : Heap) (p : Nat → Prop) [DecidablePred p] : Sub (part H p) H := ⟨rfl, fun b => by
  show (if p b then H.map b else none) = none ∨ (if p b then H.map b else none) = H.map b
  split
  · exact .inr rfl
  · exact .inl rfl⟩
theorem part_map {H : Heap} {p : Nat → Prop} [DecidablePred p] {b : Nat} (h : p b) : (part H p).map b = H.map b := if_pos h
end Go.Sh

/-
  Matrices in a heap of any kind: seen as contents; cut out.
-/
namespace Go.Sh
set_option linter.unusedSimpArgs false
set_option linter.unusedVariables false
open Go Go.RowKit Go.Proofs

theorem MatH.viewH {H : Heap} {lo ob : Nat} {cs : List SV} {nm : Nat → Nat} {M : List (List Int)} {f cap : Nat} {e : Bool} (h : MatH H lo ob cs nm M) : Sh.view H (f + 2) (.own ob 0 M.length cap 1 e) = some (rr M) := by
  have hL : viewL H (f + 1) cs = some (rows M) := by
    have hr : ∀ i, i < M.length → ∃ s, cs[i]? = some s ∧ Sh.view H (f + 1) s = some (ri (mrow M i)) := fun i hi => by
      obtain ⟨e, e2, h1, h2⟩ := h.row i hi
      exact ⟨_, h1, view_own (L := mrow M i) (e2 := e2) h2 rfl⟩
    have hln := h.ln
    clear h
    induction cs generalizing M with
    | nil =>
      have : M = [] := List.length_eq_zero_iff.1 hln.symm
      subst this
      exact viewL_nil_of
    | cons s cs ih =>
      cases M with
      | nil => simp at hln
      | cons L M =>
        refine viewL_cons_of ?_ (ih (M := M) (fun i hi => ?_) (by simpa using hln))
        · obtain ⟨s', h1, h2⟩ := hr 0 (by simp)
          simp at h1; subst h1
          exact h2
        · obtain ⟨s', h1, h2⟩ := hr (i + 1) (by simpa using hi)
          exact ⟨s', by simpa using h1, h2⟩
  simp only [Sh.view, h.o, Nat.mul_one, List.drop_zero]
  have hle : M.length ≤ cs.length := by rw [h.ln]; omega
  rw [if_pos (by omega), ← h.ln, List.take_length, hL]
  simp only [rr, h.ln]
theorem noRowL_of {cs : List SV} (h : ∀ s ∈ cs, noRow s = true) : noRowL cs = true := by
  induction cs with
  | nil => rfl
  | cons s cs ih => simp only [noRowL, h s (by simp), ih fun s hs => h s (by simp [hs]), Bool.and_self]
theorem MatH.part {H : Heap} {lo ob : Nat} {cs : List SV} {nm : Nat → Nat} {M : List (List Int)} (h : MatH H lo ob cs nm M) (p : Nat → Prop) [DecidablePred p] (h1 : p ob) (h2 : ∀ i, i < M.length → p (nm i)) : MatH (Sh.part H p) lo ob cs nm M :=
  ⟨h.ln, by rw [part_map h1, h.o], fun i hi => by
    obtain ⟨e, e2, k1, k2⟩ := h.row i hi
    exact ⟨e, e2, k1, by rw [part_map (h2 i hi), k2]⟩, h.inj, h.lo1, h.lo2⟩
theorem MatH.nr {H : Heap} {lo ob : Nat} {cs : List SV} {nm : Nat → Nat} {M : List (List Int)} (h : MatH H lo ob cs nm M) : noRowL cs = true :=
  noRowL_of fun s hs => by
    obtain ⟨i, hi, rfl⟩ := List.getElem_of_mem hs
    obtain ⟨e, e2, h1, h2⟩ := h.row i (by rw [← h.ln]; exact hi)
    rw [List.getElem?_eq_getElem hi] at h1
    simp at h1
    rw [h1]; rfl
def Rect (M : List (List Int)) (n : Nat) : Prop := ∀ i, i < M.length → (mrow M i).length = n
theorem Rect.set {M : List (List Int)} {n i k : Nat} {x : Int} (h : Rect M n) : Rect (mset M i k x) n := fun j hj => by
  rw [mset_length] at hj
  rw [mset_row_length]; exact h j hj
theorem Rect.snoc {M : List (List Int)} {n : Nat} {L : List Int} (h : Rect M n) (hL : L.length = n) : Rect (M ++ [L]) n := fun j hj => by
  by_cases hlt : j < M.length
  · rw [mrow_lt hlt]; exact h j hlt
  · have : j = M.length := by simp at hj; omega
    subst this; rw [mrow_at]; exact hL
end Go.Sh

/-
  Sets of rules in memory of their own: an outer block, a block for each rule's tests.
-/
namespace Go.Sh
set_option linter.unusedSimpArgs false
set_option linter.unusedVariables false
open Go Go.Proofs

structure RuH (H : Heap) (lo : Nat) (R : List (List Con)) (ob : Nat) (cs : List SV) (nm : Nat → Nat) : Prop where
  ln : cs.length = R.length
  o : R.length ≠ 0 → H.map ob = some ⟨cs, false⟩
  row : ∀ i, i < R.length → cs[i]? = some (nlG 3 (nm i) (rg R i).length) ∧ ((rg R i).length ≠ 0 → H.map (nm i) = some ⟨cons (rg R i), false⟩ ∧ lo ≤ nm i ∧ nm i < H.nb ∧ nm i ≠ ob)
  inj : ∀ i j, i < R.length → j < R.length → (rg R i).length ≠ 0 → (rg R j).length ≠ 0 → nm i = nm j → i = j
  lo1 : R.length ≠ 0 → lo ≤ ob ∧ ob < H.nb
theorem RuH.nil {H : Heap} {lo ob : Nat} {nm : Nat → Nat} : RuH H lo [] ob [] nm := ⟨rfl, fun h => absurd rfl h, fun i hi => absurd hi (by simp), fun i j hi => absurd hi (by simp), fun h => absurd rfl h⟩
theorem RuH.fr {H H' : Heap} {lo ob : Nat} {R : List (List Con)} {cs : List SV} {nm : Nat → Nat} (h : RuH H lo R ob cs nm) (hn : H.nb ≤ H'.nb) (hf : ∀ b, lo ≤ b → b < H.nb → H'.map b = H.map b) : RuH H' lo R ob cs nm := by
  refine ⟨h.ln, fun h0 => ?_, fun i hi => ⟨(h.row i hi).1, fun h0 => ?_⟩, h.inj, fun h0 => ?_⟩
  · have := h.lo1 h0
    rw [hf _ this.1 this.2, h.o h0]
  · obtain ⟨g1, g2, g3, g4⟩ := (h.row i hi).2 h0
    exact ⟨by rw [hf _ g2 g3, g1], g2, by omega, g4⟩
  · have := h.lo1 h0; omega
theorem RuH.low {H : Heap} {lo lo2 ob : Nat} {R : List (List Con)} {cs : List SV} {nm : Nat → Nat} (h : RuH H lo R ob cs nm) (hl : lo2 ≤ lo) : RuH H lo2 R ob cs nm :=
  ⟨h.ln, h.o, fun i hi => ⟨(h.row i hi).1, fun h0 => by obtain ⟨g1, g2, g3, g4⟩ := (h.row i hi).2 h0; exact ⟨g1, by omega, g3, g4⟩⟩, h.inj, fun h0 => by have := h.lo1 h0; omega⟩
theorem rg_lt {R S : List (List Con)} {i : Nat} (h : i < R.length) : rg (R ++ S) i = rg R i := by simp [rg, h, List.getElem?_append_left h]
theorem rg_at {R : List (List Con)} {T : List Con} : rg (R ++ [T]) R.length = T := by simp [rg]
theorem RuH.snoc {H H' : Heap} {lo ob ob' tb : Nat} {R : List (List Con)} {T : List Con} {cs : List SV} {nm : Nat → Nat} (h : RuH H lo R ob cs nm) (hlo : lo ≤ H.nb) (ho : H'.map ob' = some ⟨cs ++ [nlG 3 tb T.length], false⟩)
    (hr : T.length ≠ 0 → H'.map tb = some ⟨cons T, false⟩ ∧ H.nb ≤ tb ∧ tb < H'.nb ∧ tb ≠ ob')
    (hf : ∀ b, lo ≤ b → b < H.nb → (R.length ≠ 0 → b ≠ ob) → H'.map b = H.map b) (hn : H.nb ≤ H'.nb) (h1 : H.nb ≤ ob' ∧ ob' < H'.nb) : RuH H' lo (R ++ [T]) ob' (cs ++ [nlG 3 tb T.length]) (fun i => if i < R.length then nm i else tb) := by
  refine ⟨by simp [h.ln], fun _ => ho, fun i hi => ?_, fun i j hi hj hi0 hj0 hij => ?_, fun _ => by omega⟩
  · by_cases hlt : i < R.length
    · obtain ⟨g1, g2⟩ := h.row i hlt
      refine ⟨by rw [List.getElem?_append_left (by rw [h.ln]; exact hlt), g1, rg_lt hlt, if_pos hlt], fun h0 => ?_⟩
      rw [rg_lt hlt] at h0 ⊢
      obtain ⟨k1, k2, k3, k4⟩ := g2 h0
      rw [if_pos hlt]
      exact ⟨by rw [hf _ k2 k3 (fun _ => k4), k1], k2, by omega, by omega⟩
    · have : i = R.length := by simp at hi; omega
      subst this
      refine ⟨by rw [rg_at, if_neg (by omega), ← h.ln]; simp, fun h0 => ?_⟩
      rw [rg_at] at h0 ⊢
      rw [if_neg (by omega)]
      obtain ⟨k1, k2, k3, k4⟩ := hr h0
      exact ⟨k1, by omega, k3, k4⟩
  · simp only [List.length_append, List.length_singleton] at hi hj
    by_cases a : i < R.length <;> by_cases b : j < R.length
    · rw [rg_lt a] at hi0
      rw [rg_lt b] at hj0
      simp only [a, b, if_true] at hij
      exact h.inj i j a b hi0 hj0 hij
    · rw [rg_lt a] at hi0
      obtain rfl : j = R.length := by omega
      rw [rg_at] at hj0
      simp only [a, b, if_true, if_false] at hij
      have := (h.row i a).2 hi0
      have := (hr hj0).2.1
      omega
    · rw [rg_lt b] at hj0
      obtain rfl : i = R.length := by omega
      rw [rg_at] at hi0
      simp only [a, b, if_true, if_false] at hij
      have := (h.row j b).2 hj0
      have := (hr hi0).2.1
      omega
    · omega
theorem view_ownK {H : Heap} {b n f cap : Nat} {ex : Bool} {e2 : Bool} {C : List Con} (hb : H.map b = some ⟨cons C, e2⟩) (hn : n = C.length) : Sh.view H (f + 1) (.own b 0 n cap 3 ex) = some (rc C) := by
  subst hn
  have hv : ∀ (C : List Con), viewL H f (cons C) = some (cons C) := by
    intro C
    induction C with
    | nil => exact viewL_nil_of
    | cons c C ih => exact viewL_cons_of view_int (viewL_cons_of view_int (viewL_cons_of view_bool ih))
  have hl := cons_length C
  have ht : (cons C).take (C.length * 3) = cons C := List.take_of_length_le (by omega)
  simp only [Sh.view, hb, List.drop_zero, ht, hv]
  rw [if_pos (by omega), rc]
theorem RuH.view {H : Heap} {lo ob : Nat} {R : List (List Con)} {cs : List SV} {nm : Nat → Nat} {f : Nat} (h : RuH H lo R ob cs nm) : Sh.view H (f + 2) (nlG 1 ob R.length) = some (rR R) := by
  by_cases h0 : R.length = 0
  · rw [nlG_t h0]
    obtain rfl : R = [] := List.length_eq_zero_iff.1 h0
    exact view_nil
  rw [nlG_f h0]
  have hL : viewL H (f + 1) cs = some (rules R) := by
    have hr : ∀ i, i < R.length → ∃ s, cs[i]? = some s ∧ Sh.view H (f + 1) s = some (rc (rg R i)) := fun i hi => by
      obtain ⟨h1, h2⟩ := h.row i hi
      refine ⟨_, h1, ?_⟩
      by_cases z : (rg R i).length = 0
      · rw [nlG_t z, List.length_eq_zero_iff.1 z]; exact view_nil
      · rw [nlG_f z]
        exact view_ownK (h2 z).1 rfl
    have hln := h.ln
    clear h h0
    induction cs generalizing R with
    | nil =>
      have : R = [] := List.length_eq_zero_iff.1 hln.symm
      subst this
      exact viewL_nil_of
    | cons s cs ih =>
      cases R with
      | nil => simp at hln
      | cons T R =>
        refine viewL_cons_of ?_ (ih (R := R) (fun i hi => ?_) (by simpa using hln))
        · obtain ⟨s', h1, h2⟩ := hr 0 (by simp)
          simp at h1; subst h1
          exact h2
        · obtain ⟨s', h1, h2⟩ := hr (i + 1) (by simpa using hi)
          exact ⟨s', by simpa using h1, h2⟩
  simp only [Sh.view, h.o h0, Nat.mul_one, List.drop_zero]
  have hle : R.length ≤ cs.length := by rw [h.ln]; omega
  rw [if_pos (by omega), ← h.ln, List.take_length, hL]
  simp only [rR, h.ln]
theorem RuH.part {H : Heap} {lo ob : Nat} {R : List (List Con)} {cs : List SV} {nm : Nat → Nat} (h : RuH H lo R ob cs nm) (p : Nat → Prop) [DecidablePred p] (h1 : R.length ≠ 0 → p ob) (h2 : ∀ i, i < R.length → (rg R i).length ≠ 0 → p (nm i)) : RuH (Sh.part H p) lo R ob cs nm :=
  ⟨h.ln, fun h0 => by rw [part_map (h1 h0), h.o h0], fun i hi => by
    obtain ⟨g1, g2⟩ := h.row i hi
    refine ⟨g1, fun h0 => ?_⟩
    obtain ⟨k1, k2, k3, k4⟩ := g2 h0
    exact ⟨by rw [part_map (h2 i hi h0), k1], k2, k3, k4⟩, h.inj, h.lo1⟩
theorem noRow_nlG (z b n : Nat) : noRow (nlG z b n) = true := by unfold nlG; split <;> rfl
theorem RuH.nr {H : Heap} {lo ob : Nat} {R : List (List Con)} {cs : List SV} {nm : Nat → Nat} (h : RuH H lo R ob cs nm) : noRowL cs = true :=
  noRowL_of fun s hs => by
    obtain ⟨i, hi, rfl⟩ := List.getElem_of_mem hs
    obtain ⟨h1, _⟩ := h.row i (by rw [← h.ln]; exact hi)
    rw [List.getElem?_eq_getElem hi] at h1
    simp at h1
    rw [h1]; exact noRow_nlG _ _ _
theorem noRowL_cons (C : List Con) : noRowL (cons C) = true := isVal_noRow (cons_vals C)
/-- A test of a rule is changed. -/
theorem RuH.set {H : Heap} {lo ob : Nat} {R : List (List Con)} {cs : List SV} {nm : Nat → Nat} (h : RuH H lo R ob cs nm) {i : Nat} (hi : i < R.length) (T : List Con) (hT : T.length = (rg R i).length) (h0 : (rg R i).length ≠ 0) : RuH (H.set (nm i) (some ⟨cons T, false⟩)) lo (R.set i T) ob cs nm := by
  have hl : (R.set i T).length = R.length := List.length_set
  have hrg : ∀ j, j < R.length → rg (R.set i T) j = if j = i then T else rg R j := fun j hj => by
    by_cases e : j = i
    · subst e; simp [rg, hi]
    · simp [rg, List.getElem?_set, Ne.symm e, e]
  have hlen : ∀ j, j < R.length → (rg (R.set i T) j).length = (rg R j).length := fun j hj => by
    rw [hrg j hj]
    split
    · rename_i e; rw [hT, e]
    · rfl
  obtain ⟨_, k1, k2, k3⟩ := (h.row i hi).2 h0
  refine ⟨by rw [hl, h.ln], fun z => ?_, fun j hj => ?_, fun a b ha hb ha0 hb0 => ?_, fun z => by rw [hl] at z; exact h.lo1 z⟩
  · rw [hl] at z
    rw [hset_map, if_neg (by omega), h.o z]
  · rw [hl] at hj
    obtain ⟨g1, g2⟩ := h.row j hj
    refine ⟨by rw [hlen j hj]; exact g1, fun z => ?_⟩
    rw [hlen j hj] at z
    obtain ⟨q1, q2, q3, q4⟩ := g2 z
    refine ⟨?_, q2, q3, q4⟩
    by_cases e : j = i
    · subst e
      rw [hset_map, if_pos rfl, hrg j hj, if_pos rfl]
    · rw [hset_map, if_neg (fun g => e (h.inj _ _ hj hi z h0 g)), hrg j hj, if_neg e, q1]
  · rw [hl] at ha hb
    rw [hlen a ha] at ha0
    rw [hlen b hb] at hb0
    exact h.inj a b ha hb ha0 hb0
end Go.Sh

/-
  Rules read back: of the program.
-/
namespace Go.Sh
set_option linter.unusedSimpArgs false
set_option linter.unusedVariables false
open Go Go.Proofs

open Classical in
/-- A set of rules and a Bool: what is read of them. -/
theorem fin_ru {H : Heap} {lo ob : Nat} {cs : List SV} {nm : Nat → Nat} {R : List (List Con)} {u : Bool} (hR : RuH H lo R ob cs nm) :
    Fin (fun r H => view H 4 r = some (.tup [.agg [rR R], .val (.bool u)])) (.tup [.agg [nlG 1 ob R.length], .val (.bool u)]) H := by
  let p : Nat → Prop := fun b => (R.length ≠ 0 ∧ b = ob) ∨ (∃ i, i < R.length ∧ (rg R i).length ≠ 0 ∧ b = nm i)
  have hR2 := hR.part p (fun h => .inl ⟨h, rfl⟩) (fun i hi h => .inr ⟨i, hi, h, rfl⟩)
  refine ⟨part H p, part_sub H p, ?_, fun b blk hb => ?_, ?_⟩
  · simp only [noRow, noRowL, noRow_nlG, Bool.and_self]
  · have hb' : (if p b then H.map b else none) = some blk := hb
    split at hb'
    · rename_i hp
      rcases hp with ⟨h0, rfl⟩ | ⟨i, hi, h0, rfl⟩
      · rw [hR.o h0] at hb'; simp at hb'; subst hb'; exact hR.nr
      · rw [((hR.row i hi).2 h0).1] at hb'; simp at hb'; subst hb'; exact noRowL_cons _
    · simp at hb'
  · have h1 : viewL (part H p) 3 [.agg [nlG 1 ob R.length], .val (.bool u)] = some [.agg [rR R], .val (.bool u)] :=
      viewL_cons_of (view_agg (viewL_cons_of (hR2.view (f := 0)) viewL_nil_of)) (viewL_cons_of view_bool viewL_nil_of)
    simp only [view, h1]
theorem take_rg {R : List (List Con)} {k : Nat} (h : k < R.length) : R.take k ++ [rg R k] = R.take (k + 1) := by
  have e : rg R k = R[k] := by simp [rg, h]
  rw [List.take_succ_eq_append_getElem h, e]
theorem take_cg {T : List Con} {j : Nat} (h : j < T.length) : cons (T.take j) ++ [.val (.int .i64 (cg T j).1), .val (.int .i64 (cg T j).2.1), .val (.bool (cg T j).2.2)] = cons (T.take (j + 1)) := by
  have e : cg T j = T[j] := by simp [cg, h]
  rw [List.take_succ_eq_append_getElem h, e, cons, cons, List.flatMap_append, List.flatMap_singleton]; rfl
theorem repC : rep [SV.val (.int .i64 0), SV.val (.int .i64 0), SV.val (.bool false)] 3 = [SV.val (.int .i64 0), SV.val (.int .i64 0), SV.val (.bool false)] := rfl
set_option maxRecDepth 20000 in
set_option maxHeartbeats 16000000 in
theorem Tryz.implPR_ok (R : List (List Con)) (hv : isVR R = true) : PCall Tryz.prog 15 [str (fmtR R)] (.tup [.agg [rR R], .val (.bool true)]) := by
  obtain ⟨⟨hR1, hR3⟩, hok⟩ := isVR_facts hv
  have hle := fmtR_len hv
  have wF := Tryz.implFmR_ok R (by omega) (fun i hi => by have := (hok (rg R i) (by simp [rg, hi])).1; omega)
  have hne : R ≠ [] := by intro h; rw [h] at hR1; simp at hR1
  have hsp : Lib.split (fmtR R) orB = R.map fmtRu := by
    rw [fmtR, if_pos hv]
    exact split_join (by simpa using hne) (fun q hq => by
      obtain ⟨T, hT, rfl⟩ := List.mem_map.1 hq
      exact fmtRu_no (hok T hT).2)
  have wS := Tryz.splitG_ok (fmtR R) orB (by omega) (by decide)
  rw [hsp] at wS
  refine FCall.pcall (R := fun r H => view H 4 r = some (.tup [.agg [rR R], .val (.bool true)])) ?_ 4 (fun r H h => h)
  refine FCall.of_body Tryz.func15 rfl (by kernel_rfl) (by simp [Tryz.ntmps15]) ?_
  refine SW_of_vc Tryz.mixed _ _ _ (by kernel_rfl) ?_
  have hPl : (R.map fmtRu).length = R.length := by simp
  have hPg : ∀ i, i < R.length → (strs (R.map fmtRu))[i]? = some (str (fmtRu (rg R i))) := fun i hi => by simp [strs, rg, hi]
  generalize R.map fmtRu = P at *
  generalize hft : fmtR R = t at *
  have hrefl : (t == t) = true := beq_self_eq_true t
  simp (disch := omega) only [Tryz.ntmps15, Tryz.results15, go_sem]
  refine wS.callV 0 (viewL_cons_of view_str (viewL_cons_of view_str viewL_nil_of)) ?_
  simp (disch := omega) only [Tryz.ntmps15, Tryz.results15, go_sem, rst]
  refine LoopW.loop (fun y : Nat × Nat × List SV × (Nat → Nat) × Heap => ⟨ofL [(0, str t), (2, .optr 0 0), (4, .optr 1 0), (13, rst P), (14, .val (.int .i64 P.length)), (15, .val (.int .i64 y.1))], y.2.2.2.2⟩)
    (fun y => y.1 ≤ R.length ∧ RuH y.2.2.2.2 2 (R.take y.1) y.2.1 y.2.2.1 y.2.2.2.1 ∧ y.2.2.2.2.map 0 = some ⟨[.val (.slice none 0 0)], true⟩ ∧ y.2.2.2.2.map 1 = some ⟨[nlG 1 y.2.1 y.1], true⟩ ∧ 2 ≤ y.2.2.2.2.nb) (fun y => R.length - y.1)
    (0, 0, [], fun _ => 0, hp [(1, ⟨[.val (.slice none 0 0)], true⟩), (0, ⟨[.val (.slice none 0 0)], true⟩)] 2) ⟨by simp, RuH.nil, (by first | rfl | (simp (disch := omega) only [hx_map, hp_map, xmap_blk, hmap_cons, xmap_skipI, xmap_nil, if_pos, if_neg, ↓reduceIte]; try rfl)), (by first | rfl | (simp (disch := omega) only [hx_map, hp_map, xmap_blk, hmap_cons, xmap_skipI, xmap_nil, if_pos, if_neg, ↓reduceIte]; try rfl)), by show 2 ≤ 2; omega⟩ (Wk.of (by simp only [go_sem, ↓List.forall_mem_cons, List.not_mem_nil, false_implies, implies_true, and_true, true_and, and_self, ri_eq, Int.natCast_add, Int.cast_ofNat_Int, rst]; try simp) rfl) ?_
  rintro ⟨k, ob, cs, nm, H0⟩ ⟨hk, hRu, hm0, hm1, hnb⟩
  simp only at hk hRu hm0 hm1 hnb
  have hkl : (R.take k).length = k := by rw [List.length_take]; omega
  refine SW_of_vc Tryz.mixed _ _ _ (by kernel_rfl) ?_
  by_cases hlt : k < R.length
  · have hg := hPg k hlt
    obtain ⟨⟨hT1, hT3⟩, hokT⟩ := hok (rg R k) (by simp [rg, hlt])
    have hru := fmtRu_len hokT
    have hcut : Lib.split (fmtRu (rg R k)) [44] = (rg R k).map fmtT := split_join (a := 44) (sub := []) (by
      intro h
      have := congrArg List.length h
      simp at this
      rw [this] at hT1; simp at hT1) (fun q hq => by
      obtain ⟨c, hc, rfl⟩ := List.mem_map.1 hq
      exact (fmtT_no (hokT c hc)).2)
    have wC := Tryz.splitG_ok (fmtRu (rg R k)) [44] (by omega) (by decide)
    rw [hcut] at wC
    have hQl : ((rg R k).map fmtT).length = (rg R k).length := by simp
    have hQg : ∀ j, j < (rg R k).length → (strs ((rg R k).map fmtT))[j]? = some (str (fmtT (cg (rg R k) j))) := fun j hj => by simp [strs, cg, hj]
    have hsnR := take_rg hlt
    generalize fmtRu (rg R k) = tx at *
    generalize (rg R k).map fmtT = Q at *
    generalize rg R k = T at *
    simp (disch := omega) only [Tryz.ntmps15, Tryz.results15, go_sem, rst, hg, hPl, hm0, hm1, hset_map, hpush_map, hset_nb, hpush_nb]
    refine wC.callV 0 (viewL_cons_of view_str (viewL_cons_of view_str viewL_nil_of)) ?_
    simp (disch := omega) only [Tryz.ntmps15, Tryz.results15, go_sem, rst, hg, hPl, hm0, hm1, hset_map, hpush_map, hset_nb, hpush_nb]
    refine LoopW.loop (fun y : Nat × Nat × Heap => ⟨ofL [(0, str t), (2, .optr 0 0), (4, .optr 1 0), (7, .optr H0.nb 0), (13, rst P), (14, .val (.int .i64 P.length)), (15, .val (.int .i64 k)), (20, rst Q), (21, .val (.int .i64 Q.length)), (22, .val (.int .i64 y.1))], y.2.2⟩)
      (fun y => y.1 ≤ T.length ∧ (∀ b, b < H0.nb → y.2.2.map b = H0.map b) ∧ H0.nb < y.2.2.nb ∧ y.2.2.map H0.nb = some ⟨[nlG 3 y.2.1 y.1], true⟩ ∧ (y.1 ≠ 0 → H0.nb < y.2.1 ∧ y.2.1 < y.2.2.nb ∧ y.2.2.map y.2.1 = some ⟨cons (T.take y.1), false⟩)) (fun y => T.length - y.1)
      (0, 0, H0.push ⟨[.val (.slice none 0 0)], true⟩) ⟨by simp, fun b hb => by show (H0.push _).map b = _; rw [hpush_map, if_neg (by omega)], by show H0.nb < (H0.push _).nb; rw [hpush_nb]; omega, by show (H0.push _).map H0.nb = _; rw [hpush_map, if_pos rfl]; rfl, fun h => absurd rfl h⟩ (Wk.of (by simp only [go_sem, ↓List.forall_mem_cons, List.not_mem_nil, false_implies, implies_true, and_true, true_and, and_self, ri_eq, Int.natCast_add, Int.cast_ofNat_Int, rst, hPl]; try simp) rfl) ?_
    rintro ⟨j, tb, H⟩ ⟨hj, hfr, hnb2, hmr, hmt⟩
    simp only at hj hfr hnb2 hmr hmt
    refine SW_of_vc Tryz.mixed _ _ _ (by kernel_rfl) ?_
    by_cases hltj : j < T.length
    · have hq := hQg j hltj
      have wT := Tryz.parseTest_ok (cg T j) (hokT (cg T j) (by simp [cg, hltj]))
      have hsn := take_cg hltj
      generalize fmtT (cg T j) = tj at *
      by_cases hz : j = 0
      · have e0 := nlG_t (z := 3) (b := tb) hz
        rw [e0] at hmr
        simp (disch := omega) only [Tryz.ntmps15, Tryz.results15, go_sem, rst, hq, hQl, hPl]
        refine wT.callV 0 (viewL_cons_of view_str viewL_nil_of) ?_
        simp (disch := omega) only [Tryz.ntmps15, Tryz.results15, go_sem, rst, hq, hQl, hPl, hmr, repC, hset_map, hpush_map, hset_nb, hpush_nb]
        have hT0 : cons (T.take j) = [] := by rw [hz]; rfl
        rw [hT0, List.nil_append] at hsn
        have e2 : ∀ b, nlG 3 b (j + 1) = .own b 0 1 1 3 false := fun b => by rw [hz]; rfl
        refine ⟨(j + 1, H.nb + 1 + 1, _), ⟨hltj, fun b hb => ?_, ?_, ?_, fun _ => ⟨?_, ?_, ?_⟩⟩, by show T.length - (j + 1) < T.length - j; omega, Wk.of (by simp only [go_sem, ↓List.forall_mem_cons, List.not_mem_nil, false_implies, implies_true, and_true, true_and, and_self, ri_eq, Int.natCast_add, Int.cast_ofNat_Int, rst, hPl, hQl]; try simp) rfl⟩
        · simp only
          simp (disch := omega) only [hset_map, hpush_map, hset_nb, hpush_nb, if_pos, if_neg, ↓reduceIte]
          exact hfr b hb
        · simp only [hset_nb, hpush_nb]; omega
        · simp only [e2]
          simp (disch := omega) only [hset_map, hpush_map, hset_nb, hpush_nb, if_pos, if_neg, ↓reduceIte]
        · simp only; omega
        · simp only [hset_nb, hpush_nb]; omega
        · simp only [← hsn]
          simp (disch := omega) only [hset_map, hpush_map, hset_nb, hpush_nb, if_pos, if_neg, ↓reduceIte]
      · have e0 := nlG_f (z := 3) (b := tb) hz
        obtain ⟨m1, m2, m3⟩ := hmt hz
        rw [e0] at hmr
        have hjL : (cons (T.take j)).length = j * 3 := by rw [cons_length, List.length_take]; omega
        have hjT : (cons (T.take j)).take (j * 3) = cons (T.take j) := List.take_of_length_le (by omega)
        generalize cons (T.take j) = A at *
        simp (disch := omega) only [Tryz.ntmps15, Tryz.results15, go_sem, rst, hq, hQl, hPl]
        refine wT.callV 0 (viewL_cons_of view_str viewL_nil_of) ?_
        simp (disch := omega) only [Tryz.ntmps15, Tryz.results15, go_sem, rst, hq, hQl, hPl, hmr, m3, hjL, hjT, hsn, repC, hset_map, hpush_map, hset_nb, hpush_nb]
        have e2 : ∀ b, nlG 3 b (j + 1) = .own b 0 (j + 1) (j + 1) 3 false := fun b => nlG_s
        refine ⟨(j + 1, H.nb + 1 + 1, _), ⟨hltj, fun b hb => ?_, ?_, ?_, fun _ => ⟨?_, ?_, ?_⟩⟩, by show T.length - (j + 1) < T.length - j; omega, Wk.of (by simp only [go_sem, ↓List.forall_mem_cons, List.not_mem_nil, false_implies, implies_true, and_true, true_and, and_self, ri_eq, Int.natCast_add, Int.cast_ofNat_Int, rst, hPl, hQl]; try simp) rfl⟩
        · simp only
          simp (disch := omega) only [hset_map, hpush_map, hset_nb, hpush_nb, if_pos, if_neg, ↓reduceIte]
          exact hfr b hb
        · simp only [hset_nb, hpush_nb]; omega
        · simp only [e2]
          simp (disch := omega) only [hset_map, hpush_map, hset_nb, hpush_nb, if_pos, if_neg, ↓reduceIte]
        · simp only; omega
        · simp only [hset_nb, hpush_nb]; omega
        · simp only
          simp (disch := omega) only [hset_map, hpush_map, hset_nb, hpush_nb, if_pos, if_neg, ↓reduceIte]
    · obtain rfl : j = T.length := by omega
      have hTz : T.length ≠ 0 := by omega
      obtain ⟨m1, m2, m3⟩ := hmt hTz
      rw [List.take_length] at m3
      have f0 := nlG_f (z := 3) (b := tb) hTz
      rw [f0] at hmr
      have hcl : cs.length = k := by rw [hRu.ln, hkl]
      have hm1' : H.map 1 = some ⟨[nlG 1 ob k], true⟩ := by rw [hfr 1 (by omega), hm1]
      have hm0' : H.map 0 = some ⟨[.val (.slice none 0 0)], true⟩ := by rw [hfr 0 (by omega), hm0]
      by_cases hkz : k = 0
      · have e0 := nlG_t (z := 1) (b := ob) hkz
        rw [e0] at hm1'
        have hcs0 : cs = [] := List.length_eq_zero_iff.1 (by omega)
        have e2 : ∀ b, nlG 1 b (k + 1) = .own b 0 1 1 1 false := fun b => by rw [hkz]; rfl
        simp (disch := omega) only [Tryz.ntmps15, Tryz.results15, go_sem, rst, hQl, hPl, hmr, hm1', hset_map, hpush_map, hset_nb, hpush_nb]
        refine ⟨(k + 1, H.nb + 1, cs ++ [nlG 3 tb T.length], fun i => if i < (R.take k).length then nm i else tb, _), ⟨hlt, ?_, ?_, ?_, ?_⟩, by show R.length - (k + 1) < R.length - k; omega, Wk.of (by simp only [go_sem, ↓List.forall_mem_cons, List.not_mem_nil, false_implies, implies_true, and_true, true_and, and_self, ri_eq, Int.natCast_add, Int.cast_ofNat_Int, rst, hPl]; try simp) rfl⟩
        · simp only
          rw [← hsnR]
          refine hRu.snoc (by omega) ?_ (fun _ => ⟨?_, by omega, ?_, by omega⟩) (fun b b1 b2 b3 => ?_) ?_ ⟨by omega, ?_⟩
          · rw [f0, hcs0]
            simp (disch := omega) only [hset_map, hpush_map, hset_nb, hpush_nb, if_pos, if_neg, ↓reduceIte]
            rfl
          · simp (disch := omega) only [hset_map, hpush_map, hset_nb, hpush_nb, if_pos, if_neg, ↓reduceIte]
            exact m3
          · simp only [hset_nb, hpush_nb]; omega
          · simp (disch := omega) only [hset_map, hpush_map, hset_nb, hpush_nb, if_pos, if_neg, ↓reduceIte]
            exact hfr b b2
          · simp only [hset_nb, hpush_nb]; omega
          · simp only [hset_nb, hpush_nb]; omega
        · simp only
          simp (disch := omega) only [hset_map, hpush_map, hset_nb, hpush_nb, if_pos, if_neg, ↓reduceIte]
          exact hm0'
        · simp only [e2]
          simp (disch := omega) only [hset_map, hpush_map, hset_nb, hpush_nb, if_pos, if_neg, ↓reduceIte]
        · simp only [hset_nb, hpush_nb]; omega
      · have e0 := nlG_f (z := 1) (b := ob) hkz
        rw [e0] at hm1'
        obtain ⟨o1, o2⟩ := hRu.lo1 (by omega)
        have hmo : H.map ob = some ⟨cs, false⟩ := by rw [hfr ob o2, hRu.o (by omega)]
        have htk : cs.take k = cs := List.take_of_length_le (by omega)
        have e2 : ∀ b, nlG 1 b (k + 1) = .own b 0 (k + 1) (k + 1) 1 false := fun b => nlG_s
        simp (disch := omega) only [Tryz.ntmps15, Tryz.results15, go_sem, rst, hQl, hPl, hmr, hm1', hmo, hcl, htk, hset_map, hpush_map, hset_nb, hpush_nb]
        refine ⟨(k + 1, H.nb + 1, cs ++ [nlG 3 tb T.length], fun i => if i < (R.take k).length then nm i else tb, _), ⟨hlt, ?_, ?_, ?_, ?_⟩, by show R.length - (k + 1) < R.length - k; omega, Wk.of (by simp only [go_sem, ↓List.forall_mem_cons, List.not_mem_nil, false_implies, implies_true, and_true, true_and, and_self, ri_eq, Int.natCast_add, Int.cast_ofNat_Int, rst, hPl]; try simp) rfl⟩
        · simp only
          rw [← hsnR]
          refine hRu.snoc (by omega) ?_ (fun _ => ⟨?_, by omega, ?_, by omega⟩) (fun b b1 b2 b3 => ?_) ?_ ⟨by omega, ?_⟩
          · rw [f0]
            simp (disch := omega) only [hset_map, hpush_map, hset_nb, hpush_nb, if_pos, if_neg, ↓reduceIte]
          · simp (disch := omega) only [hset_map, hpush_map, hset_nb, hpush_nb, if_pos, if_neg, ↓reduceIte]
            exact m3
          · simp only [hset_nb, hpush_nb]; omega
          · have := b3 (by omega)
            simp (disch := omega) only [hset_map, hpush_map, hset_nb, hpush_nb, if_pos, if_neg, ↓reduceIte]
            exact hfr b b2
          · simp only [hset_nb, hpush_nb]; omega
          · simp only [hset_nb, hpush_nb]; omega
        · simp only
          simp (disch := omega) only [hset_map, hpush_map, hset_nb, hpush_nb, if_pos, if_neg, ↓reduceIte]
          exact hm0'
        · simp only [e2]
          simp (disch := omega) only [hset_map, hpush_map, hset_nb, hpush_nb, if_pos, if_neg, ↓reduceIte]
        · simp only [hset_nb, hpush_nb]; omega
  · obtain rfl : k = R.length := by omega
    rw [List.take_length] at hRu
    have e0 := nlG_f (z := 1) (b := ob) (by omega : R.length ≠ 0)
    have hview := hRu.view (f := 0)
    have hfin := fin_ru (u := true) (hRu.fr (H' := H0.set 0 (some ⟨[.own ob 0 R.length R.length 1 false], true⟩)) (by rw [hset_nb]; exact Nat.le_refl _) (fun b b1 b2 => by rw [hset_map, if_neg (by omega)]))
    rw [e0] at hm1 hview hfin
    simp (disch := omega) only [Tryz.ntmps15, Tryz.results15, go_sem, rst, hPl, hm1, hm0, hset_map, hpush_map, hset_nb, hpush_nb]
    refine wF.callV 3 (viewL_cons_of (view_agg (viewL_cons_of hview viewL_nil_of)) viewL_nil_of) ?_
    simp (disch := omega) only [Tryz.ntmps15, Tryz.results15, go_sem, hrefl, Bool.not_true, hm1, hm0, hset_map, hpush_map, hset_nb, hpush_nb]
    exact hfin
set_option maxHeartbeats 4000000 in
theorem Tryz.implPR_nil : PCall Tryz.prog 15 [str []] (.tup [.agg [rR []], .val (.bool false)]) := by
  have wS := Tryz.splitG_ok [] orB (by simp) (by decide)
  rw [orB, split_nil] at wS
  have wC := Tryz.splitG_ok [] [44] (by simp) (by decide)
  rw [split_nil] at wC
  have wT := Tryz.parseTest_nil
  have hq : (strs [[]])[0]? = some (str []) := rfl
  refine FCall.pcall (R := fun r H => r = .tup [.agg [.val (.slice none 0 0)], .val (.bool false)]) ?_ 4 (fun r H h => by
    subst h
    have h1 : viewL H 3 [.agg [.val (.slice none 0 0)], .val (.bool false)] = some [.agg [rR []], .val (.bool false)] := viewL_cons_of (view_agg (viewL_cons_of view_nil viewL_nil_of)) (viewL_cons_of view_bool viewL_nil_of)
    simp only [view, h1])
  have hfin : ∀ H : Heap, Fin (fun r _ => r = .tup [.agg [.val (.slice none 0 0)], .val (.bool false)]) (.tup [.agg [.val (.slice none 0 0)], .val (.bool false)]) H := fun H =>
    ⟨⟨fun _ => none, H.nb⟩, ⟨rfl, fun _ => .inl rfl⟩, by simp [noRow, noRowL], fun b blk hb => by simp at hb, rfl⟩
  refine FCall.of_body Tryz.func15 rfl (by kernel_rfl) (by simp [Tryz.ntmps15]) ?_
  refine SW_of_vc Tryz.mixed _ _ _ (by kernel_rfl) ?_
  simp (disch := omega) only [Tryz.ntmps15, Tryz.results15, go_sem]
  refine wS.callV 0 (viewL_cons_of view_str (viewL_cons_of view_str viewL_nil_of)) ?_
  simp (disch := omega) only [Tryz.ntmps15, Tryz.results15, go_sem, rst]
  refine LoopW.loop (fun _ : Unit => ⟨ofL [(2, .optr 0 0), (4, .optr 1 0), (13, rst [[]]), (14, .val (.int .i64 1)), (15, .val (.int .i64 0))], hp [(1, ⟨[.val (.slice none 0 0)], true⟩), (0, ⟨[.val (.slice none 0 0)], true⟩)] 2⟩) (fun _ => True) (fun _ => 0) () trivial (Wk.of (by simp only [go_sem, ↓List.forall_mem_cons, List.not_mem_nil, false_implies, implies_true, and_true, true_and, and_self, ri_eq, Int.natCast_add, Int.cast_ofNat_Int, rst]; try simp) rfl) ?_
  rintro _ _
  refine SW_of_vc Tryz.mixed _ _ _ (by kernel_rfl) ?_
  simp (disch := omega) only [Tryz.ntmps15, Tryz.results15, go_sem, rst, hq, List.length_singleton]
  refine wC.callV 0 (viewL_cons_of view_str (viewL_cons_of view_str viewL_nil_of)) ?_
  simp (disch := omega) only [Tryz.ntmps15, Tryz.results15, go_sem, rst, hq, List.length_singleton]
  refine LoopW.loop (fun _ : Unit => ⟨ofL [(2, .optr 0 0), (20, rst [[]]), (21, .val (.int .i64 1)), (22, .val (.int .i64 0))], hp [(0, ⟨[.val (.slice none 0 0)], true⟩)] 3⟩) (fun _ => True) (fun _ => 0) () trivial (Wk.ofH (by simp only [go_sem, ↓List.forall_mem_cons, List.not_mem_nil, false_implies, implies_true, and_true, true_and, and_self, ri_eq, Int.natCast_add, Int.cast_ofNat_Int, rst]; try simp) (by simp [hp, hmap]) (by simp [hp])) ?_
  rintro _ _
  refine SW_of_vc Tryz.mixed _ _ _ (by kernel_rfl) ?_
  simp (disch := omega) only [Tryz.ntmps15, Tryz.results15, go_sem, rst, hq, List.length_singleton]
  refine wT.callV 0 (viewL_cons_of view_str viewL_nil_of) ?_
  simp (disch := omega) only [Tryz.ntmps15, Tryz.results15, go_sem, rst, hq, List.length_singleton, repC]
  exact hfin _
end Go.Sh

/-
  A slice of ints that is nil as long as it is empty.
-/
namespace Go.Sh
set_option linter.unusedSimpArgs false
set_option linter.unusedVariables false
open Go Go.Proofs

/-- A slice of ints that is nil as long as it is empty. -/
def nlI (b : Nat) (T : List Int) : SV := if T.length = 0 then .val (.slice none 0 0) else .own b 0 T.length T.length 1 false
def nlH (b : Nat) (T : List Int) : List (Nat × Blk) := if T.length = 0 then [] else [(b, ⟨ints T, false⟩)]
theorem nlI_f {b : Nat} {T : List Int} (h : T.length ≠ 0) : nlI b T = .own b 0 T.length T.length 1 false := if_neg h
theorem nlH_f {b : Nat} {T : List Int} (h : T.length ≠ 0) : nlH b T = [(b, ⟨ints T, false⟩)] := if_neg h
theorem nlI_t {b : Nat} {T : List Int} (h : T.length = 0) : nlI b T = .val (.slice none 0 0) := if_pos h
theorem nlH_t {b : Nat} {T : List Int} (h : T.length = 0) : nlH b T = [] := if_pos h
theorem nlH_in {b : Nat} {T : List Int} {H : Heap} (h : T.length ≠ 0 → H.map b = some ⟨ints T, false⟩) : ∀ q ∈ nlH b T, H.map q.1 = some q.2 := by
  intro q hq
  unfold nlH at hq
  split at hq
  · simp at hq
  · rename_i h0
    simp at hq; subst hq
    exact h h0
theorem nlH_map {b : Nat} {T : List Int} (h : T.length ≠ 0) : hmap (nlH b T) b = some ⟨ints T, false⟩ := by rw [nlH_f h, hmap_cons, if_pos rfl]

theorem nlI_nil (b : Nat) : nlI b [] = .val (.slice none 0 0) := rfl
theorem delB_nlH {b x : Nat} {T : List Int} (h : T.length ≠ 0 → b ≠ x) : delB (nlH b T) x = nlH b T := by
  by_cases h0 : T.length = 0
  · rw [nlH_t h0]; rfl
  · rw [nlH_f h0]; have := h h0; simp [delB, this]
end Go.Sh

/-
  FormatPartition of the program; the law walked.
-/
namespace Go.Sh
set_option linter.unusedSimpArgs false
set_option linter.unusedVariables false
open Go Go.Proofs

def fpF (M : List (List Int)) : Nat × Nat × Nat → St
  | (0, _, nb) => ⟨ofL [(3, .val (.slice none 0 0)), (10, rr M), (11, .val (.int .i64 M.length)), (12, .val (.int .i64 0))], hp [] nb⟩
  | (k + 1, ob, nb) => ⟨ofL [(3, .own ob 0 (k + 1) (k + 1) 1 false), (10, rr M), (11, .val (.int .i64 M.length)), (12, .val (.int .i64 ((k + 1 : Nat) : Int)))], hx [.blk ob ⟨strs ((M.map fmtB).take (k + 1)), false⟩] nb⟩
theorem strs_take_snoc {M : List (List Int)} {k : Nat} (h : k < M.length) : strs ((M.map fmtB).take k) ++ [.val (.string (sb (fmtB (mrow M k))))] = strs ((M.map fmtB).take (k + 1)) := by
  rw [strs_snoc, ← List.map_take, ← List.map_take, take_mrow h]; simp

end Go.Sh

/-
  ParsePartition of the reference.
-/
namespace Go.Sh
set_option linter.unusedSimpArgs false
set_option linter.unusedVariables false
open Go Go.Proofs

theorem view_tupB {L : List Int} {n : Nat} {u : Bool} {r r0 : SV} {H : Heap} (h : r = .tup [r0, .val (.bool u)]) (hf : FlatRes n 1 (ints L) r0 H) : view H 3 r = some (.tup [ri L, .val (.bool u)]) := by
  subst h
  have h1 : viewL H 2 [r0, .val (.bool u)] = some [ri L, .val (.bool u)] := viewL_cons_of (flat_view hf) (viewL_cons_of view_bool viewL_nil_of)
  simp only [view, h1]
theorem spc_snoc : ∀ (i : Int) (qs : List (List UInt8)) (q : List UInt8) (p : List Int × Int), spc i (qs ++ [q]) p = q.foldl (sput (i + qs.length)) (spc i qs p)
  | i, [], q, p => by simp [spc]
  | i, r :: qs, q, p => by
    rw [List.cons_append, spc, spc, spc_snoc (i + 1) qs q]
    congr 2
    rw [List.length_cons]; omega
/-- Eight places, of which some are used. -/
def P8 (p : List Int × Int) : Prop := p.1.length = 8 ∧ 0 ≤ p.2 ∧ p.2 ≤ 8
theorem P8.put {p : List Int × Int} (h : P8 p) (i : Int) (c : UInt8) : P8 (sput i p c) := by
  rw [sput]
  split
  · obtain ⟨h1, h2, h3⟩ := h
    exact ⟨by simp [h1], by simp only; omega, by simp only; omega⟩
  · exact h
theorem P8.fold {i : Int} : ∀ {q : List UInt8} {p : List Int × Int}, P8 p → P8 (q.foldl (sput i) p)
  | [], _, h => h
  | c :: q, _, h => P8.fold (q := q) (h.put i c)
theorem P8.spc : ∀ {qs : List (List UInt8)} {i : Int} {p : List Int × Int}, P8 p → P8 (spc i qs p)
  | [], _, _, h => h
  | q :: qs, i, _, h => P8.spc (qs := qs) (i := i + 1) (h.fold (i := i) (q := q))
theorem P8.zero : P8 (List.replicate 8 0, 0) := ⟨by simp, by simp, by simp⟩
def spAt (s : List UInt8) (i : Nat) : List Int × Int := spc 0 ((cutL 124 s).take i) (List.replicate 8 0, 0)
def spIn (s : List UInt8) (i k : Nat) : List Int × Int := (((cutL 124 s).getD i []).take k).foldl (sput i) (spAt s i)
theorem spAt8 (s : List UInt8) (i : Nat) : P8 (spAt s i) := P8.zero.spc
theorem spIn8 (s : List UInt8) (i k : Nat) : P8 (spIn s i k) := (spAt8 s i).fold
theorem spAt_zero (s : List UInt8) : spAt s 0 = (List.replicate 8 0, 0) := rfl
theorem spIn_zero (s : List UInt8) (i : Nat) : spIn s i 0 = spAt s i := rfl
theorem spIn_succ (s : List UInt8) {i k : Nat} (h : k < ((cutL 124 s).getD i []).length) : spIn s i (k + 1) = sput i (spIn s i k) (((cutL 124 s).getD i []).getD k 0) := by
  rw [spIn, List.take_add_one, List.getElem?_eq_getElem h, List.foldl_append]
  simp only [Option.toList_some, List.foldl_cons, List.foldl_nil]
  have e : ((cutL 124 s).getD i [])[k] = ((cutL 124 s).getD i []).getD k 0 := by
    generalize (cutL 124 s).getD i [] = q at *
    simp [List.getD, h]
  rw [e]; rfl
theorem spIn_all (s : List UInt8) {i : Nat} (h : i < (cutL 124 s).length) : spIn s i ((cutL 124 s).getD i []).length = spAt s (i + 1) := by
  have e : (cutL 124 s).take (i + 1) = (cutL 124 s).take i ++ [(cutL 124 s).getD i []] := by
    rw [List.take_add_one, List.getElem?_eq_getElem h]; simp [List.getD, h]
  rw [spIn, List.take_length, spAt, spAt, e, spc_snoc]
  congr 2
  rw [List.length_take]; omega
theorem sdec_at (s : List UInt8) {i : Nat} (h : i = 8 ∨ i = (cutL 124 s).length ∧ i ≤ 8) : sdec s = (spAt s i).1.take (spAt s i).2.toNat := by
  have e : (cutL 124 s).take 8 = (cutL 124 s).take i := by
    rcases h with h | ⟨h1, h2⟩
    · rw [h]
    · rw [h1, List.take_length, List.take_of_length_le (by omega)]
  rw [sdec, e]; rfl
theorem cutL_part (c : UInt8) : ∀ (s : List UInt8), ∀ q ∈ cutL c s, q.length ≤ s.length
  | [], q, h => by simp [cutL] at h; subst h; simp
  | x :: s, q, h => by
    rw [cutL] at h
    have ih := cutL_part c s
    split at h
    · rcases List.mem_cons.1 h with rfl | h
      · simp
      · have := ih q h; simp; omega
    · obtain ⟨p, ps, e⟩ := cutL_ne c s
      rw [e] at h ih
      rcases List.mem_cons.1 h with rfl | h
      · have := ih p (by simp); simp; omega
      · have := ih q (List.mem_cons_of_mem _ h); simp; omega

def PPRes (s : List UInt8) (r : SV) (H : Heap) : Prop := ∃ r0, r = .tup [r0, .val (.bool (pp s).2)] ∧ FlatRes (pp s).1.length 1 (ints (pp s).1) r0 H
theorem pp_end {s : List UInt8} {l : List Int} {u : Bool} {b n cap : Nat} {ex e2 : Bool} {H : Heap} (hpp : pp s = (l, u)) (hn : n = l.length) (hb : H.map b = some ⟨ints l, e2⟩) : Fin (PPRes s) (.tup [.own b 0 n cap 1 ex, .val (.bool u)]) H := by
  subst hn
  have hR : PPRes s = fun r H => ∃ r0, r = .tup [r0, .val (.bool u)] ∧ FlatRes l.length 1 (ints l) r0 H := by funext r H; rw [PPRes, hpp]
  rw [hR]
  exact fin_tup (by rw [ints_length, Nat.mul_one]) (ints_vals _) hb
end Go.Sh

/-
  Feature vectors as text: of the program.
-/
namespace Go.Sh
set_option linter.unusedSimpArgs false
set_option linter.unusedVariables false
open Go Go.Proofs

def fmtFt (i : Nat) (x : Int) : List UInt8 := fname i ++ [61] ++ Lib.itoa x
def ftL (f : List Int) : List (List UInt8) := (List.range f.length).map fun i => fmtFt i (f.getD i 0)
def fmtF (f : List Int) : List UInt8 := if isFV f = true then Lib.join (ftL f) [32] else []
theorem ftL_length (f : List Int) : (ftL f).length = f.length := by simp [ftL]
theorem ftL_at {f : List Int} {i : Nat} (h : i < f.length) : (ftL f).getD i [] = fmtFt i (f.getD i 0) := by simp [ftL, h]
theorem isFV_facts {f : List Int} (h : isFV f = true) : f.length = 6 ∧ ∀ i, i < 6 → 0 ≤ f.getD i 0 ∧ f.getD i 0 ≤ 1000 := by
  rw [isFV, Bool.and_eq_true, decide_eq_true_eq] at h
  refine ⟨h.1, fun i hi => ?_⟩
  exact inR_of (List.all_eq_true.1 h.2 (f.getD i 0) (by simp [h.1, hi]))
theorem fname_len {i : Nat} (h : i < 6) : (fname i).length ≤ 6 := by
  have : i = 0 ∨ i = 1 ∨ i = 2 ∨ i = 3 ∨ i = 4 ∨ i = 5 := by omega
  rcases this with rfl | rfl | rfl | rfl | rfl | rfl <;> decide
theorem fmtFt_facts {i : Nat} {x : Int} (hi : i < 6) (h0 : 0 ≤ x) (h1 : x ≤ 1000) : (32 : UInt8) ∉ fmtFt i x ∧ (fmtFt i x).length ≤ 600 ∧ Lib.cut (fmtFt i x) [61] = (fname i, Lib.itoa x, true) := by
  have hl := fname_len hi
  have hn := itoa_k (x := x) (by omega)
  refine ⟨fun hm => ?_, by rw [fmtFt, List.length_append, List.length_append, List.length_singleton]; omega, ?_⟩
  · rw [fmtFt] at hm
    rcases List.mem_append.1 hm with hm | hm
    · rcases List.mem_append.1 hm with hm | hm
      · exact absurd (fname_no hi 32 hm) (by decide)
      · exact absurd hm (by decide)
    · exact absurd (itoa_dgt h0 32 hm).1 (by decide)
  · have := idx_app (a := 61) (sub := []) (q := Lib.itoa x) (p := fname i) (fun hm => absurd (fname_no hi 61 hm) (by decide))
    rw [fmtFt, Lib.cut, this, if_pos (by omega), Int.toNat_natCast]
    simp [List.append_assoc]
set_option maxHeartbeats 4000000 in
theorem Tryz.implFF_ok (f : List Int) (hf : f.length ≤ 1048576) : PCall Tryz.prog 18 [ri f] (str (fmtF f)) := by
  have w := Tryz.implFV_ok f hf
  refine FCall.pcall (R := fun r _ => r = str (fmtF f)) ?_ 0 (by rintro r H rfl; exact view_str)
  refine FCall.of_body Tryz.func18 rfl (by kernel_rfl) (by simp [Tryz.ntmps18]) ?_
  refine SW_of_vc Tryz.mixed _ _ _ (by kernel_rfl) ?_
  cases hv : isFV f with
  | false =>
    rw [hv] at w
    simp (disch := omega) only [Tryz.ntmps18, Tryz.results18, go_sem]
    refine w.callV 0 (viewL_cons_of (view_rowL (by first | rfl | simp [marks_length, canon_length] | omega)) viewL_nil_of) ?_
    simp (disch := omega) only [Tryz.ntmps18, Tryz.results18, go_sem]
    exact Fin.val (by rw [fmtF, hv]; rfl)
  | true =>
  rw [hv] at w
  obtain ⟨h6, hb⟩ := isFV_facts hv
  have hrep : List.replicate f.length (str []) = strs (fillS (ftL f) 0) := by rw [fillS_zero, ftL_length]; simp [strs]
  simp (disch := omega) only [Tryz.ntmps18, Tryz.results18, go_sem]
  refine w.callV 0 (viewL_cons_of (view_rowL (by first | rfl | simp [marks_length, canon_length] | omega)) viewL_nil_of) ?_
  simp (disch := omega) only [Tryz.ntmps18, Tryz.results18, go_sem]
  refine LoopW.loop (fun k : Nat => ⟨ofL [(3, .own 0 0 f.length f.length 1 true), (12, ri f), (13, .val (.int .i64 f.length)), (14, .val (.int .i64 k))], hp [(0, ⟨strs (fillS (ftL f) k), true⟩)] 1⟩) (fun k => k ≤ f.length) (fun k => f.length - k) 0 (by omega) (Wk.of (by simp only [go_sem, ↓List.forall_mem_cons, List.not_mem_nil, false_implies, implies_true, and_true, true_and, and_self, ri_eq, Int.natCast_add, Int.cast_ofNat_Int]; try simp) (by first | rfl | (rw [← hrep]; done) | (simp only [hrep]; done))) ?_
  intro k hk
  have hfl := fillS_length (ftL f) k (by rw [ftL_length]; exact hk)
  rw [ftL_length] at hfl
  refine SW_of_vc Tryz.mixed _ _ _ (by kernel_rfl) ?_
  by_cases hlt : k < f.length
  · have hx := hb k (by omega)
    have gk := ints_get (L := f) (k := k) hlt
    have hnm := nmV_load (i := k) (by omega)
    have hn6 := fname_len (i := k) (by omega)
    have hset := fillS_set (ftL f) k (by rw [ftL_length]; exact hlt)
    rw [ftL_at hlt] at hset
    have hfl2 : (strs (fillS (ftL f) k)).length = f.length := by rw [strs_length, hfl]
    have wi := Tryz.implFI_ok (f.getD k 0) (by omega) (by omega)
    have hil := itoa_k (x := f.getD k 0) (by omega)
    have hft : fname k ++ [61] ++ Lib.itoa (f.getD k 0) = fmtFt k (f.getD k 0) := rfl
    generalize f.getD k 0 = x at *
    simp (disch := omega) only [Tryz.ntmps18, Tryz.results18, go_sem, gk, hnm, hfl2, List.length_append, List.length_singleton, List.length_cons, List.length_nil]
    refine wi.callDV 0 (viewL_cons_of (view_int) viewL_nil_of) ?_
    simp (disch := omega) only [Tryz.ntmps18, Tryz.results18, go_sem, gk, hnm, hfl2, List.length_append, List.length_singleton, List.length_cons, List.length_nil, hft, strs_set, hset]
    exact ⟨k + 1, by omega, by omega, Wk.of (by simp only [go_sem, ↓List.forall_mem_cons, List.not_mem_nil, false_implies, implies_true, and_true, true_and, and_self, ri_eq, Int.natCast_add, Int.cast_ofNat_Int]; try simp) rfl⟩
  · obtain rfl : k = f.length := by omega
    have hall : fillS (ftL f) f.length = ftL f := by rw [← ftL_length f, fillS_all]
    have hfe : fmtF f = Lib.join (ftL f) [32] := by rw [fmtF, if_pos hv]
    have hlen : (Lib.join (ftL f) [32]).length ≤ 6 * 601 := by
      have := join_le (sep := [32]) (m := 600) (L := ftL f) (fun q hq => by
        obtain ⟨i, hi, rfl⟩ := List.mem_map.1 hq
        rw [List.mem_range] at hi
        have := hb i (by omega)
        exact (fmtFt_facts (by omega) this.1 this.2).2.1)
      rw [ftL_length, h6] at this
      simpa using this
    have wJ := Tryz.strJoin_ok (ftL f) [32] (by rw [ftL_length]; omega) (by omega)
    rw [← hfe] at wJ
    rw [hall]
    simp (disch := omega) only [Tryz.ntmps18, Tryz.results18, go_sem]
    refine wJ.callV 1 (viewL_cons_of (view_ownS (L := ftL f) (e2 := true) (by first | rfl | (simp (disch := omega) only [hx_map, hp_map, xmap_blk, hmap_cons, xmap_skipI, xmap_nil, if_pos, if_neg, ↓reduceIte]; try rfl)) (ftL_length f).symm) (viewL_cons_of view_str viewL_nil_of)) ?_
    simp (disch := omega) only [Tryz.ntmps18, Tryz.results18, go_sem]
    exact Fin.val rfl
set_option maxHeartbeats 8000000 in
theorem Tryz.implPF_ok (f : List Int) (hv : isFV f = true) : PCall Tryz.prog 19 [str (fmtF f)] (.tup [ri f, .val (.bool true)]) := by
  obtain ⟨h6, hb⟩ := isFV_facts hv
  have hfe : fmtF f = Lib.join (ftL f) [32] := by rw [fmtF, if_pos hv]
  have hmem : ∀ q ∈ ftL f, (32 : UInt8) ∉ q ∧ q.length ≤ 600 := fun q hq => by
    obtain ⟨i, hi, rfl⟩ := List.mem_map.1 hq
    rw [List.mem_range] at hi
    have := hb i (by omega)
    have := fmtFt_facts (i := i) (by omega) this.1 this.2
    exact ⟨this.1, this.2.1⟩
  have hlen : (fmtF f).length ≤ 6 * 601 := by
    have := join_le (sep := [32]) (m := 600) (L := ftL f) (fun q hq => (hmem q hq).2)
    rw [ftL_length, h6] at this
    rw [hfe]; simpa using this
  have hsp : Lib.split (fmtF f) [32] = ftL f := by
    rw [hfe]
    exact split_join (a := 32) (sub := []) (by intro h; have := congrArg List.length h; rw [ftL_length, h6] at this; simp at this) (fun q hq => (hmem q hq).1)
  have wS := Tryz.splitG_ok (fmtF f) [32] (by omega) (by decide)
  rw [hsp] at wS
  have wF := Tryz.implFF_ok f (by omega)
  refine FCall.pcall (R := fun r H => ∃ r0, r = .tup [r0, .val (.bool true)] ∧ FlatRes f.length 1 (ints f) r0 H) ?_ 3 (fun r H ⟨r0, h1, h2⟩ => view_tupB h1 h2)
  refine FCall.of_body Tryz.func19 rfl (by kernel_rfl) (by simp [Tryz.ntmps19]) ?_
  refine SW_of_vc Tryz.mixed _ _ _ (by kernel_rfl) ?_
  have hPg : ∀ i, i < f.length → (strs (ftL f))[i]? = some (str (fmtFt i (f.getD i 0))) := fun i hi => by rw [strs_get (by rw [ftL_length]; exact hi), ftL_at hi]
  have hPl := ftL_length f
  generalize hft : fmtF f = t at *
  generalize ftL f = P at *
  have hrefl : (t == t) = true := beq_self_eq_true t
  simp (disch := omega) only [Tryz.ntmps19, Tryz.results19, go_sem]
  refine wS.callV 0 (viewL_cons_of view_str (viewL_cons_of view_str viewL_nil_of)) ?_
  simp (disch := omega) only [Tryz.ntmps19, Tryz.results19, go_sem, rst]
  refine LoopW.loop (fun p : Nat × Nat × Nat => ⟨ofL [(0, str t), (4, nlI p.2.1 (f.take p.1)), (13, rst P), (14, .val (.int .i64 P.length)), (15, .val (.int .i64 p.1))], hp (nlH p.2.1 (f.take p.1)) p.2.2⟩)
    (fun p => p.1 ≤ f.length ∧ (p.1 ≠ 0 → p.2.1 < p.2.2)) (fun p => f.length - p.1) (0, 0, 0) ⟨by simp, fun h => absurd rfl h⟩ (Wk.ofH (by simp only [go_sem, ↓List.forall_mem_cons, List.not_mem_nil, false_implies, implies_true, and_true, true_and, and_self, ri_eq, Int.natCast_add, Int.cast_ofNat_Int, rst, List.take_zero, nlI_t (T := []) rfl]; try simp) (by simp [nlH]) (by simp [hp])) ?_
  rintro ⟨k, ob, nb⟩ ⟨hk, hob⟩
  simp only at hk hob
  have hrl : (f.take k).length = k := by rw [List.length_take]; omega
  refine SW_of_vc Tryz.mixed _ _ _ (by kernel_rfl) ?_
  by_cases hlt : k < f.length
  · have hx := hb k (by omega)
    have hg := hPg k hlt
    obtain ⟨_, hl6, hcut⟩ := fmtFt_facts (i := k) (by omega) hx.1 hx.2
    have wC := Tryz.cutG_ok (fmtFt k (f.getD k 0)) [61] (by omega)
    rw [hcut] at wC
    have hil := itoa_k (x := f.getD k 0) (by omega)
    have wP := Tryz.implPI_ok (Lib.itoa (f.getD k 0)) (by omega)
    have hpi : pint (Lib.itoa (f.getD k 0)) = some (f.getD k 0) := pint_itoa (by omega) (by omega)
    rw [pIR, hpi] at wP
    have hsn : ints (f.take k) ++ [.val (.int .i64 (f.getD k 0))] = ints (f.take (k + 1)) := by
      have e : f.getD k 0 = f[k] := by simp [hlt]
      rw [List.take_succ_eq_append_getElem hlt, e]; simp only [ints, List.map_append, List.map_cons, List.map_nil]
    have hl2 : (f.take (k + 1)).length = k + 1 := by rw [List.length_take]; omega
    have e2 : ∀ b, nlI b (f.take (k + 1)) = .own b 0 (k + 1) (k + 1) 1 false := fun b => by rw [nlI_f (by omega), hl2]
    have e3 : ∀ b, nlH b (f.take (k + 1)) = [(b, ⟨ints (f.take (k + 1)), false⟩)] := fun b => nlH_f (by omega)
    generalize fmtFt k (f.getD k 0) = tk at *
    generalize f.getD k 0 = x at *
    by_cases hz : k = 0
    · have e0 := nlI_t (b := ob) (T := f.take k) (by omega)
      have h0 := nlH_t (b := ob) (T := f.take k) (by omega)
      have hsn0 : [SV.val (.int .i64 x)] = ints (f.take (k + 1)) := by rw [← hsn, List.length_eq_zero_iff.1 (by omega : (f.take k).length = 0)]; rfl
      have e2z : ∀ b, nlI b (f.take (k + 1)) = .own b 0 1 1 1 false := fun b => by
        have hk1 : k + 1 = 1 := by omega
        rw [e2, hk1]
      simp (disch := omega) only [Tryz.ntmps19, Tryz.results19, go_sem, rst, hg, hPl, e0, h0]
      refine wC.callV 0 (viewL_cons_of view_str (viewL_cons_of view_str viewL_nil_of)) ?_
      simp (disch := omega) only [Tryz.ntmps19, Tryz.results19, go_sem, rst, hg, hPl, e0, h0]
      refine wP.callV 0 (viewL_cons_of view_str viewL_nil_of) ?_
      simp (disch := omega) only [Tryz.ntmps19, Tryz.results19, go_sem, rst, hg, hPl, e0, h0, Option.getD_some, Option.isSome_some]
      refine ⟨(k + 1, nb + 1, nb + 1 + 1), ⟨hlt, fun _ => by show nb + 1 < nb + 1 + 1; omega⟩, by show f.length - (k + 1) < f.length - k; omega, Wk.ofH (by simp only [go_sem, ↓List.forall_mem_cons, List.not_mem_nil, false_implies, implies_true, and_true, true_and, and_self, ri_eq, Int.natCast_add, Int.cast_ofNat_Int, rst, hPl, e2z]; try simp) ?_ (Nat.le_refl _)⟩
      show ∀ q ∈ nlH (nb + 1) (f.take (k + 1)), _
      refine nlH_in fun _ => ?_
      rw [← hsn0]; simp (disch := omega) only [hp_map, hmap_cons, if_pos, if_neg, ↓reduceIte]
    · have o2 := hob hz
      have e0 := nlI_f (b := ob) (T := f.take k) (by omega)
      have h0 := nlH_f (b := ob) (T := f.take k) (by omega)
      rw [hrl] at e0
      have hil2 : (ints (f.take k)).length = k := by rw [ints_length, hrl]
      have hit : (ints (f.take k)).take k = ints (f.take k) := List.take_of_length_le (by omega)
      simp (disch := omega) only [Tryz.ntmps19, Tryz.results19, go_sem, rst, hg, hPl, e0, h0, hil2, hit, hsn]
      refine wC.callV 0 (viewL_cons_of view_str (viewL_cons_of view_str viewL_nil_of)) ?_
      simp (disch := omega) only [Tryz.ntmps19, Tryz.results19, go_sem, rst, hg, hPl, e0, h0, hil2, hit, hsn]
      refine wP.callV 0 (viewL_cons_of view_str viewL_nil_of) ?_
      simp (disch := omega) only [Tryz.ntmps19, Tryz.results19, go_sem, rst, hg, hPl, e0, h0, hil2, hit, hsn, Option.getD_some, Option.isSome_some]
      refine ⟨(k + 1, nb + 1, nb + 1 + 1), ⟨hlt, fun _ => by show nb + 1 < nb + 1 + 1; omega⟩, by show f.length - (k + 1) < f.length - k; omega, Wk.ofH (by simp only [go_sem, ↓List.forall_mem_cons, List.not_mem_nil, false_implies, implies_true, and_true, true_and, and_self, ri_eq, Int.natCast_add, Int.cast_ofNat_Int, rst, hPl, e2]; try simp) ?_ (Nat.le_refl _)⟩
      show ∀ q ∈ nlH (nb + 1) (f.take (k + 1)), _
      refine nlH_in fun _ => ?_
      simp (disch := omega) only [hp_map, hmap_cons, if_pos, if_neg, ↓reduceIte]
  · obtain rfl : k = f.length := by omega
    have o2 := hob (by omega)
    have e0 := nlI_f (b := ob) (T := f) (by omega)
    have h0 := nlH_f (b := ob) (T := f) (by omega)
    simp (disch := omega) only [Tryz.ntmps19, Tryz.results19, go_sem, rst, hPl, List.take_length, e0, h0]
    refine wF.callV 1 (viewL_cons_of (view_own (L := f) (e2 := false) (by first | rfl | (simp (disch := omega) only [hx_map, hp_map, xmap_blk, hmap_cons, xmap_skipI, xmap_nil, if_pos, if_neg, ↓reduceIte]; try rfl)) rfl) viewL_nil_of) ?_
    simp (disch := omega) only [Tryz.ntmps19, Tryz.results19, go_sem, hrefl, Bool.not_true, e0, h0, List.take_length]
    exact fin_tup (cs := ints f) (e2 := false) (by rw [ints_length, Nat.mul_one]) (ints_vals _) (by first | rfl | (simp (disch := omega) only [hx_map, hp_map, xmap_blk, hmap_cons, xmap_skipI, xmap_nil, if_pos, if_neg, ↓reduceIte]; try rfl))
set_option maxHeartbeats 4000000 in
theorem Tryz.implPF_nil : PCall Tryz.prog 19 [str []] (.tup [ri [], .val (.bool false)]) := by
  have wS := Tryz.splitG_ok [] [32] (by simp) (by decide)
  rw [split_nil] at wS
  have wC := Tryz.cutG_ok [] [61] (by simp)
  have e1 : Lib.cut ([] : List UInt8) [61] = ([], [], false) := by rw [Lib.cut, idx_no (by simp)]; rfl
  rw [e1] at wC
  have wP := Tryz.implPI_ok [] (by simp)
  rw [pIR, pint_nil] at wP
  have hq : (strs [[]])[0]? = some (str []) := rfl
  refine FCall.pcall (R := fun r H => r = .tup ([Value.slice none 0 0, Value.bool false].map .val)) ?_ 1 (fun r H h => by
    subst h
    have h1 : viewL H 1 [.val (.slice none 0 0), .val (.bool false)] = some [ri [], .val (.bool false)] := viewL_cons_of view_nil (viewL_cons_of view_bool viewL_nil_of)
    have h2 : viewL H 0 [.val (.slice none 0 0), .val (.bool false)] = some [ri [], .val (.bool false)] := viewL_cons_of view_nil (viewL_cons_of view_bool viewL_nil_of)
    simp only [List.map_cons, List.map_nil, view, h2])
  refine FCall.of_body Tryz.func19 rfl (by kernel_rfl) (by simp [Tryz.ntmps19]) ?_
  refine SW_of_vc Tryz.mixed _ _ _ (by kernel_rfl) ?_
  simp (disch := omega) only [Tryz.ntmps19, Tryz.results19, go_sem]
  refine wS.callV 0 (viewL_cons_of view_str (viewL_cons_of view_str viewL_nil_of)) ?_
  simp (disch := omega) only [Tryz.ntmps19, Tryz.results19, go_sem, rst]
  refine LoopW.loop (fun _ : Unit => ⟨ofL [(13, rst [[]]), (14, .val (.int .i64 1)), (15, .val (.int .i64 0))], hp [] 0⟩) (fun _ => True) (fun _ => 0) () trivial (Wk.of (by simp only [go_sem, ↓List.forall_mem_cons, List.not_mem_nil, false_implies, implies_true, and_true, true_and, and_self, ri_eq, Int.natCast_add, Int.cast_ofNat_Int, rst]; try simp) rfl) ?_
  rintro _ _
  refine SW_of_vc Tryz.mixed _ _ _ (by kernel_rfl) ?_
  simp (disch := omega) only [Tryz.ntmps19, Tryz.results19, go_sem, rst, hq, List.length_singleton]
  refine wC.callV 0 (viewL_cons_of view_str (viewL_cons_of view_str viewL_nil_of)) ?_
  simp (disch := omega) only [Tryz.ntmps19, Tryz.results19, go_sem, rst, hq, List.length_singleton]
  refine wP.callV 0 (viewL_cons_of view_str viewL_nil_of) ?_
  simp (disch := omega) only [Tryz.ntmps19, Tryz.results19, go_sem, rst, hq, List.length_singleton, Option.getD_none, Option.isSome_none]
  exact fin_pr rfl
end Go.Sh

/-
  strings.Cut at a byte: contract.
-/
namespace Go.Sh
set_option linter.unusedSimpArgs false
set_option linter.unusedVariables false
open Go Go.Proofs

theorem fin_tri {R : SV → Heap → Prop} {a b c : Value} {H : Heap} (h : R (.tup [.val a, .val b, .val c]) ⟨fun _ => none, H.nb⟩) : Fin R (.tup [.val a, .val b, .val c]) H :=
  ⟨⟨fun _ => none, H.nb⟩, ⟨rfl, fun _ => .inl rfl⟩, by simp [noRow, noRowL], fun b blk hb => by simp at hb, h⟩
theorem view_cut {H : Heap} {f : Nat} {a b : ByteArray} {u : Bool} : view H (f + 1) (.tup [.val (.string a), .val (.string b), .val (.bool u)]) = some (.tup [.val (.string a), .val (.string b), .val (.bool u)]) := by
  have h1 : viewL H f [.val (.string a), .val (.string b), .val (.bool u)] = some [.val (.string a), .val (.string b), .val (.bool u)] := viewL_cons_of view_str (viewL_cons_of view_str (viewL_cons_of view_bool viewL_nil_of))
  simp only [view, h1]
abbrev cutR (c : UInt8) (s : List UInt8) : SV := .tup [str (cut2 c s).1, str (cut2 c s).2.1, .val (.bool (cut2 c s).2.2)]
theorem Tryz.sindex_ok (s : List UInt8) (c : UInt8) : PCall Tryz.prog 75 [str s, str [c]] (.val (.int .i64 (Lib.indexByte s c))) := by
  refine ⟨⟨_, Tryz.func75, rfl, rfl⟩, fun w vs hl _ => ?_⟩
  simp only [LRel, VRel] at hl
  obtain ⟨v, rest, rfl, rfl, v2, rest2, rfl, rfl, rfl⟩ := hl
  refine (Tryz.stringslite_Index_one (sb s) c w).mono ?_
  rintro e w' ⟨rfl, rfl⟩
  refine ⟨_, rfl, RowKit.Below.refl _ _, ?_⟩
  simp only [VRel, sb_data]
set_option maxHeartbeats 1000000 in
theorem Tryz.scut_ok (s : List UInt8) (c : UInt8) (hs : s.length ≤ 1048576) : PCall Tryz.prog 59 [str s, str [c]] (cutR c s) := by
  have wi := Tryz.sindex_ok s c
  refine FCall.pcall (R := fun r _ => r = cutR c s) ?_ 1 (by rintro r H rfl; exact view_cut)
  refine FCall.of_body Tryz.func59 rfl (by kernel_rfl) (by simp [Tryz.ntmps59]) ?_
  refine SW_of_vc Tryz.mixed _ _ _ (by kernel_rfl) ?_
  rcases cutL_idx s c with ⟨h1, _⟩ | ⟨m, h1, h2, _⟩
  · have hc : cut2 c s = (s, [], false) := by rw [cut2, h1]; rfl
    rw [h1] at wi
    simp (disch := omega) only [Tryz.ntmps59, Tryz.results59, go_sem]
    refine wi.callV 0 (viewL_cons_of view_str (viewL_cons_of view_str viewL_nil_of)) ?_
    simp (disch := omega) only [Tryz.ntmps59, Tryz.results59, go_sem]
    exact fin_tri (by unfold cutR; rw [hc])
  · have hc : cut2 c s = (s.take m, s.drop (m + 1), true) := by rw [cut2, h1, if_pos (by omega), Int.toNat_natCast]
    rw [h1] at wi
    have t1 : ((m : Int) + ((1 : Nat) : Int)).toNat = m + 1 := by omega
    have t2 : ((m : Int) + 1).toNat = m + 1 := by omega
    have t3 : (s.drop (m + 1)).take (s.length - (m + 1)) = s.drop (m + 1) := List.take_of_length_le (by rw [List.length_drop]; exact Nat.le_refl _)
    simp (disch := omega) only [Tryz.ntmps59, Tryz.results59, go_sem]
    refine wi.callV 0 (viewL_cons_of view_str (viewL_cons_of view_str viewL_nil_of)) ?_
    simp (disch := omega) only [Tryz.ntmps59, Tryz.results59, go_sem, t1, t2, t3]
    exact fin_tri (by unfold cutR; rw [hc])
theorem Tryz.cut_ok (s : List UInt8) (c : UInt8) (hs : s.length ≤ 1048576) : PCall Tryz.prog 39 [str s, str [c]] (cutR c s) := by
  have wi := Tryz.scut_ok s c hs
  refine FCall.pcall (R := fun r _ => r = cutR c s) ?_ 1 (by rintro r H rfl; exact view_cut)
  refine FCall.of_body Tryz.func39 rfl (by kernel_rfl) (by simp [Tryz.ntmps39]) ?_
  refine SW_of_vc Tryz.mixed _ _ _ (by kernel_rfl) ?_
  simp (disch := omega) only [Tryz.ntmps39, Tryz.results39, go_sem]
  refine wi.callV 0 (viewL_cons_of view_str (viewL_cons_of view_str viewL_nil_of)) ?_
  simp (disch := omega) only [Tryz.ntmps39, Tryz.results39, go_sem]
  exact fin_tri rfl
end Go.Sh

/-
  ParseScoring: contracts of both.
-/
namespace Go.Sh
set_option linter.unusedSimpArgs false
set_option linter.unusedVariables false
open Go Go.Proofs

def sk (t : List UInt8) (k : Nat) : List Int := (t.take k).map fun c => (c.toNat : Int) - 48
theorem sk_length {t : List UInt8} {k : Nat} (h : k ≤ t.length) : (sk t k).length = k := by simp [sk, h]
theorem sk_snoc {t : List UInt8} {k : Nat} (h : k < t.length) : ints (sk t k) ++ [.val (.int .i64 (((t.getD k 0).toNat : Int) - 48))] = ints (sk t (k + 1)) := by
  rw [sk, sk, take_succD h]; simp [ints]
theorem sk_all {t : List UInt8} : sk t t.length = t.map fun c => (c.toNat : Int) - 48 := by rw [sk, List.take_length]
theorem sk_six {t : List UInt8} {k : Nat} (h : k = 6 ∨ (k = t.length ∧ k ≤ 6)) : sk t k = sW t := by
  rcases h with rfl | ⟨rfl, h⟩
  · rfl
  · rw [sk_all, sW, List.take_of_length_le h]
def ScR (t : List UInt8) (r : SV) (H : Heap) : Prop :=
  match psc t with
  | some (W, b) => ∃ r0, r = .tup [.agg [r0, .val (.int .i64 b)], .val (.bool true)] ∧ FlatRes W.length 1 (ints W) r0 H
  | none => r = .tup [.agg [.val (.slice none 0 0), .val (.int .i64 0)], .val (.bool false)]
theorem fin_sc {t : List UInt8} {W : List Int} {x : Int} {b n cap : Nat} {ex e2 : Bool} {H : Heap} (h : psc t = some (W, x)) (hn : n = W.length) (hb : H.map b = some ⟨ints W, e2⟩) : Fin (ScR t) (.tup [.agg [.own b 0 n cap 1 ex, .val (.int .i64 x)], .val (.bool true)]) H := by
  subst hn
  obtain ⟨H2, h1, h2, h3, h4⟩ := fin_ints (cap := cap) (ex := ex) rfl hb
  exact ⟨H2, h1, by simp [noRow, noRowL], h3, by rw [ScR, h]; exact ⟨_, rfl, h4⟩⟩
theorem fin_scn {t : List UInt8} {H : Heap} (h : psc t = none) : Fin (ScR t) (.tup [.agg [.val (.slice none 0 0), .val (.int .i64 0)], .val (.bool false)]) H :=
  ⟨⟨fun _ => none, H.nb⟩, ⟨rfl, fun _ => .inl rfl⟩, by simp [noRow, noRowL], fun b blk hb => by simp at hb, by rw [ScR, h]⟩
theorem fmtS_nil (b : Int) : fmtS [] b = [] := by
  rw [fmtS, if_neg]
  intro h
  have := (isSc_facts h).1
  simp at this
theorem view_sOwn {H : Heap} {f b n cap : Nat} {ex e2 : Bool} {W : List Int} {x : Int} (hb : H.map b = some ⟨ints W, e2⟩) (hn : n = W.length) : view H (f + 2) (.agg [.own b 0 n cap 1 ex, .val (.int .i64 x)]) = some (sS W x) :=
  view_agg (viewL_cons_of (view_own hb hn) (viewL_cons_of view_int viewL_nil_of))
theorem view_sNil {H : Heap} {f : Nat} {x : Int} : view H (f + 1) (.agg [.val (.slice none 0 0), .val (.int .i64 x)]) = some (sS [] x) :=
  view_agg (viewL_cons_of view_nil (viewL_cons_of view_int viewL_nil_of))
set_option maxHeartbeats 4000000 in
theorem Tryz.implPS_f (t : List UInt8) (ht : t.length ≤ 1048576) : FCall Tryz.prog 17 [str t] (ScR t) := by
  have wC := Tryz.cut_ok t 45 ht
  have hc1 : (cut2 45 t).1.length ≤ 1048576 ∧ (cut2 45 t).2.1.length ≤ 1048576 := by
    rw [cut2]; split <;> simp [List.length_take, List.length_drop] <;> omega
  have hnum := @psc_num t
  have hcut := fun n => @psc_cut t n
  rw [cutR] at wC
  refine FCall.of_body Tryz.func17 rfl (by kernel_rfl) (by simp [Tryz.ntmps17]) ?_
  refine SW_of_vc2 (onD 9 [(32, 39)] []) Tryz.mixed _ _ _ (by kernel_rfl) ?_
  generalize (cut2 45 t).1 = d at *
  generalize (cut2 45 t).2.1 = m at *
  generalize (cut2 45 t).2.2 = u at *
  obtain ⟨hd, hm⟩ := hc1
  have wP := Tryz.implPI_ok m hm
  cases hpm : pint m with
  | none =>
    have hp := hnum hpm
    rw [pIR, hpm] at wP
    simp (disch := omega) only [Tryz.ntmps17, Tryz.results17, go_sem]
    refine wC.callV 0 (viewL_cons_of view_str (viewL_cons_of view_str viewL_nil_of)) ?_
    simp (disch := omega) only [Tryz.ntmps17, Tryz.results17, go_sem]
    refine wP.callV 0 (viewL_cons_of view_str viewL_nil_of) ?_
    simp (disch := omega) only [Tryz.ntmps17, Tryz.results17, go_sem, Option.getD_none, Option.isSome_none]
    exact fin_scn hp
  | some n =>
    have hpp := hcut n hpm
    rw [← sk_all] at hpp
    rw [pIR, hpm] at wP
    simp (disch := omega) only [Tryz.ntmps17, Tryz.results17, go_sem]
    refine wC.callV 0 (viewL_cons_of view_str (viewL_cons_of view_str viewL_nil_of)) ?_
    simp (disch := omega) only [Tryz.ntmps17, Tryz.results17, go_sem]
    refine wP.callV 0 (viewL_cons_of view_str viewL_nil_of) ?_
    simp (disch := omega) only [Tryz.ntmps17, Tryz.results17, go_sem, Option.getD_some, Option.isSome_some]
    refine LoopW.loop (fun p : Nat × Nat × Nat => ⟨ofL [(0, str t), (2, .optr 0 0), (4, str d), (9, .optr 1 0), (28, .val (.int .i64 d.length)), (29, .val (.int .i64 p.1))], hp ([(0, ⟨[.val (.slice none 0 0), .val (.int .i64 0)], true⟩), (1, ⟨[nlI p.2.1 (sk d p.1), .val (.int .i64 n)], true⟩)] ++ nlH p.2.1 (sk d p.1)) p.2.2⟩)
      (fun p => p.1 ≤ d.length ∧ 2 ≤ p.2.2 ∧ (p.1 ≠ 0 → 2 ≤ p.2.1 ∧ p.2.1 < p.2.2)) (fun p => d.length - p.1) (0, 2, 2) ⟨by simp, by simp, fun h => absurd rfl h⟩ (Wk.ofH (by simp only [go_sem, ↓List.forall_mem_cons, List.not_mem_nil, false_implies, implies_true, and_true, true_and, and_self, ri_eq, Int.natCast_add, Int.cast_ofNat_Int]; try simp) (by
        simp only [nlI_t (T := sk d 0) rfl, nlH_t (T := sk d 0) rfl, List.append_nil, List.forall_mem_cons, List.not_mem_nil, false_implies, implies_true, and_true]
        refine ⟨?_, ?_⟩ <;> simp (disch := omega) only [hp_map, hmap_cons, if_pos, if_neg, ↓reduceIte]) (by simp [hp])) ?_
    rintro ⟨k, ob, nb⟩ ⟨hk, hn2, ho⟩
    simp only at hk hn2 ho
    have hkl := sk_length hk
    refine SW_of_vc2 (onD 9 [(32, 39)] []) Tryz.mixed _ _ _ (by kernel_rfl) ?_
    by_cases hlt : k < d.length
    · have hix := sb_ix hlt
      have hsn := sk_snoc hlt
      have hl2 := sk_length (t := d) (k := k + 1) hlt
      have e2 : ∀ b, nlI b (sk d (k + 1)) = .own b 0 (k + 1) (k + 1) 1 false := fun b => by rw [nlI_f (by omega), hl2]
      have e3 : ∀ b, nlH b (sk d (k + 1)) = [(b, ⟨ints (sk d (k + 1)), false⟩)] := fun b => nlH_f (by omega)
      have hc8 : (d.getD k 0).toNat < 256 := UInt8.toNat_lt _
      generalize d.getD k 0 = c at *
      by_cases hz : k = 0
      · have e0 := nlI_t (b := ob) (T := sk d k) (by omega)
        have h0 := nlH_t (b := ob) (T := sk d k) (by omega)
        have hsn0 : [SV.val (.int .i64 ((c.toNat : Int) - 48))] = ints (sk d (k + 1)) := by rw [← hsn, List.length_eq_zero_iff.1 (by omega : (sk d k).length = 0)]; rfl
        have e2z : ∀ b, nlI b (sk d (k + 1)) = .own b 0 1 1 1 false := fun b => by
          have hk1 : k + 1 = 1 := by omega
          rw [e2, hk1]
        simp (disch := omega) only [Tryz.ntmps17, Tryz.results17, go_sem, hix, e0, h0, List.append_nil]
        refine ⟨(k + 1, nb + 1, nb + 1 + 1), ⟨hlt, by show 2 ≤ nb + 1 + 1; omega, fun _ => ⟨by show 2 ≤ nb + 1; omega, by show nb + 1 < nb + 1 + 1; omega⟩⟩, by show d.length - (k + 1) < d.length - k; omega, Wk.ofH (by simp only [go_sem, ↓List.forall_mem_cons, List.not_mem_nil, false_implies, implies_true, and_true, true_and, and_self, ri_eq, Int.natCast_add, Int.cast_ofNat_Int]; try simp) ?_ (Nat.le_refl _)⟩
        simp only [e2z, e3, List.cons_append, List.nil_append, List.forall_mem_cons, List.not_mem_nil, false_implies, implies_true, and_true]
        rw [← hsn0]
        refine ⟨?_, ?_, ?_⟩ <;> simp (disch := omega) only [hp_map, hmap_cons, if_pos, if_neg, ↓reduceIte]
      · have e0 := nlI_f (b := ob) (T := sk d k) (by omega)
        have h0 := nlH_f (b := ob) (T := sk d k) (by omega)
        obtain ⟨o1, o2⟩ := ho hz
        rw [hkl] at e0
        have hil : (ints (sk d k)).length = k := by rw [ints_length, hkl]
        have hit : (ints (sk d k)).take k = ints (sk d k) := List.take_of_length_le (by omega)
        simp (disch := omega) only [Tryz.ntmps17, Tryz.results17, go_sem, hix, e0, h0, List.cons_append, List.nil_append, hil, hit, hsn]
        refine ⟨(k + 1, nb + 1, nb + 1 + 1), ⟨hlt, by show 2 ≤ nb + 1 + 1; omega, fun _ => ⟨by show 2 ≤ nb + 1; omega, by show nb + 1 < nb + 1 + 1; omega⟩⟩, by show d.length - (k + 1) < d.length - k; omega, Wk.ofH (by simp only [go_sem, ↓List.forall_mem_cons, List.not_mem_nil, false_implies, implies_true, and_true, true_and, and_self, ri_eq, Int.natCast_add, Int.cast_ofNat_Int]; try simp) ?_ (Nat.le_refl _)⟩
        simp only [e2, e3, List.cons_append, List.nil_append, List.forall_mem_cons, List.not_mem_nil, false_implies, implies_true, and_true]
        refine ⟨?_, ?_, ?_⟩ <;> simp (disch := omega) only [hp_map, hmap_cons, if_pos, if_neg, ↓reduceIte]
    · obtain rfl : k = d.length := by omega
      by_cases hz : d.length = 0
      · have e0 := nlI_t (b := ob) (T := sk d d.length) (by omega)
        have h0 := nlH_t (b := ob) (T := sk d d.length) (by omega)
        have hd0 : sk d d.length = [] := List.length_eq_zero_iff.1 (by omega)
        have wF := Tryz.implFS_ok [] n (by simp)
        rw [fmtS_nil] at wF
        rw [hd0, fmtS_nil] at hpp
        have ht0 : t ≠ [] := by
          rintro rfl
          rw [if_pos rfl] at hpp
          rw [psc, if_neg (fun h => h.1 rfl)] at hpp
          cases hpp
        have hp : psc t = none := by rw [hpp, if_neg (fun h => ht0 h.symm)]
        have hf1 : (([] : List UInt8) == t) = false := by rw [beq_eq_false_iff_ne]; exact fun h => ht0 h.symm
        simp (disch := omega) only [Tryz.ntmps17, Tryz.results17, go_sem, e0, h0, List.append_nil]
        refine wF.callV 2 (viewL_cons_of view_sNil viewL_nil_of) ?_
        simp (disch := omega) only [Tryz.ntmps17, Tryz.results17, go_sem, hf1, Bool.not_false]
        exact fin_scn hp
      obtain ⟨o1, o2⟩ := ho hz
      have e0 := nlI_f (b := ob) (T := sk d d.length) (by omega)
      have h0 := nlH_f (b := ob) (T := sk d d.length) (by omega)
      rw [hkl] at e0
      have wF := Tryz.implFS_ok (sk d d.length) n (by omega)
      by_cases hf : fmtS (sk d d.length) n = t
      · rw [if_pos hf] at hpp
        have hf1 : (fmtS (sk d d.length) n == t) = true := by rw [hf]; exact beq_self_eq_true t
        simp (disch := omega) only [Tryz.ntmps17, Tryz.results17, go_sem, e0, h0, List.cons_append, List.nil_append]
        refine wF.callV 2 (viewL_cons_of (view_sOwn (W := sk d d.length) (e2 := false) (by first | rfl | (simp (disch := omega) only [hx_map, hp_map, xmap_blk, hmap_cons, xmap_skipI, xmap_nil, if_pos, if_neg, ↓reduceIte]; try rfl)) hkl.symm) viewL_nil_of) ?_
        simp (disch := omega) only [Tryz.ntmps17, Tryz.results17, go_sem, hf1, Bool.not_true]
        exact fin_sc (e2 := false) hpp hkl.symm (by first | rfl | (simp (disch := omega) only [hx_map, hp_map, xmap_blk, hmap_cons, xmap_skipI, xmap_nil, if_pos, if_neg, ↓reduceIte]; try rfl))
      · rw [if_neg hf] at hpp
        have hf1 : (fmtS (sk d d.length) n == t) = false := by rw [beq_eq_false_iff_ne]; exact hf
        simp (disch := omega) only [Tryz.ntmps17, Tryz.results17, go_sem, e0, h0, List.cons_append, List.nil_append]
        refine wF.callV 2 (viewL_cons_of (view_sOwn (W := sk d d.length) (e2 := false) (by first | rfl | (simp (disch := omega) only [hx_map, hp_map, xmap_blk, hmap_cons, xmap_skipI, xmap_nil, if_pos, if_neg, ↓reduceIte]; try rfl)) hkl.symm) viewL_nil_of) ?_
        simp (disch := omega) only [Tryz.ntmps17, Tryz.results17, go_sem, hf1, Bool.not_false]
        exact fin_scn hpp
end Go.Sh

/-
  The scores of a pair at all arguments; formats read back; the sign of a weight.
-/
namespace Go.Sh
set_option linter.unusedSimpArgs false
set_option linter.unusedVariables false
open Go Go.Proofs

def psf (W : List Int) (b : Int) (f : List Int) : Int := if isSc W b = true ∧ isFV f = true then (dot f W 6).tdiv (wsum W 6) else 0
theorem Tryz.specPSa_ok (W : List Int) (b : Int) (f : List Int) (hW : W.length ≤ 1048576) (hf : f.length ≤ 1048576) : PCall Tryz.prog 9 [sS W b, ri f] (.val (.int .i64 (psf W b f))) := by
  by_cases h1 : isSc W b = true
  · by_cases h2 : isFV f = true
    · rw [psf, if_pos ⟨h1, h2⟩]; exact Tryz.specPS_ok W b f hW hf h1 h2
    · rw [psf, if_neg (fun h => h2 h.2)]
      have w1 := Tryz.specSc_ok W b hW
      have w2 := Tryz.specFV_ok f hf
      rw [h1] at w1
      rw [(by simpa using h2 : isFV f = false)] at w2
      refine FCall.pcall (R := fun r _ => r = .val (.int .i64 0)) ?_ 0 (by rintro r H rfl; exact view_int)
      refine FCall.of_body Tryz.func9 rfl (by kernel_rfl) (by simp [Tryz.ntmps9]) ?_
      refine SW_of_vc Tryz.mixed _ _ _ (by kernel_rfl) ?_
      simp (disch := omega) only [Tryz.ntmps9, Tryz.results9, go_sem]
      refine w1.callV 1 (viewL_cons_of view_sS viewL_nil_of) ?_
      simp (disch := omega) only [Tryz.ntmps9, Tryz.results9, go_sem]
      refine w2.callV 0 (viewL_cons_of (view_row) viewL_nil_of) ?_
      simp (disch := omega) only [Tryz.ntmps9, Tryz.results9, go_sem]
      exact Fin.val rfl
  · rw [psf, if_neg (fun h => h1 h.1)]
    have w1 := Tryz.specSc_ok W b hW
    rw [(by simpa using h1 : isSc W b = false)] at w1
    refine FCall.pcall (R := fun r _ => r = .val (.int .i64 0)) ?_ 0 (by rintro r H rfl; exact view_int)
    refine FCall.of_body Tryz.func9 rfl (by kernel_rfl) (by simp [Tryz.ntmps9]) ?_
    refine SW_of_vc Tryz.mixed _ _ _ (by kernel_rfl) ?_
    simp (disch := omega) only [Tryz.ntmps9, Tryz.results9, go_sem]
    refine w1.callV 1 (viewL_cons_of view_sS viewL_nil_of) ?_
    simp (disch := omega) only [Tryz.ntmps9, Tryz.results9, go_sem]
    exact Fin.val rfl
theorem Tryz.implPSa_ok (W : List Int) (b : Int) (f : List Int) (hW : W.length ≤ 1048576) (hf : f.length ≤ 1048576) : PCall Tryz.prog 8 [sS W b, ri f] (.val (.int .i64 (psf W b f))) := by
  by_cases h1 : isSc W b = true
  · by_cases h2 : isFV f = true
    · rw [psf, if_pos ⟨h1, h2⟩]; exact Tryz.implPS_ok W b f hW hf h1 h2
    · rw [psf, if_neg (fun h => h2 h.2)]
      have w1 := Tryz.implSc_ok W b hW
      have w2 := Tryz.implFV_ok f hf
      rw [h1] at w1
      rw [(by simpa using h2 : isFV f = false)] at w2
      refine FCall.pcall (R := fun r _ => r = .val (.int .i64 0)) ?_ 0 (by rintro r H rfl; exact view_int)
      refine FCall.of_body Tryz.func8 rfl (by kernel_rfl) (by simp [Tryz.ntmps8]) ?_
      refine SW_of_vc Tryz.mixed _ _ _ (by kernel_rfl) ?_
      simp (disch := omega) only [Tryz.ntmps8, Tryz.results8, go_sem]
      refine w1.callV 1 (viewL_cons_of view_sS viewL_nil_of) ?_
      simp (disch := omega) only [Tryz.ntmps8, Tryz.results8, go_sem]
      refine w2.callV 0 (viewL_cons_of (view_row) viewL_nil_of) ?_
      simp (disch := omega) only [Tryz.ntmps8, Tryz.results8, go_sem]
      exact Fin.val rfl
  · rw [psf, if_neg (fun h => h1 h.1)]
    have w1 := Tryz.implSc_ok W b hW
    rw [(by simpa using h1 : isSc W b = false)] at w1
    refine FCall.pcall (R := fun r _ => r = .val (.int .i64 0)) ?_ 0 (by rintro r H rfl; exact view_int)
    refine FCall.of_body Tryz.func8 rfl (by kernel_rfl) (by simp [Tryz.ntmps8]) ?_
    refine SW_of_vc Tryz.mixed _ _ _ (by kernel_rfl) ?_
    simp (disch := omega) only [Tryz.ntmps8, Tryz.results8, go_sem]
    refine w1.callV 1 (viewL_cons_of view_sS viewL_nil_of) ?_
    simp (disch := omega) only [Tryz.ntmps8, Tryz.results8, go_sem]
    exact Fin.val rfl

theorem pwt_sign {R : List (List Con)} {W : List Int} {b : Int} {f : List Int} (h1 : isVR R = true) (h2 : isSc W b = true) (h3 : isFV f = true) : (pwt R W b f == 0) = false ∧ decide (0 < pwt R W b f) = decide (0 ≤ fr R f) := by
  have e : pwt R W b f = if 0 ≤ fr R f then (if (dot f W 6).tdiv (wsum W 6) - b < 1 then 1 else (dot f W 6).tdiv (wsum W 6) - b) else (if -1 < (dot f W 6).tdiv (wsum W 6) - b then -1 else (dot f W 6).tdiv (wsum W 6) - b) := by
    rw [pwt, h1, h2, h3]; rfl
  by_cases h : 0 ≤ fr R f
  · rw [if_pos h] at e
    have : 0 < pwt R W b f := by rw [e]; split <;> omega
    exact ⟨by rw [beq_eq_false_iff_ne]; omega, by rw [decide_eq_true this, decide_eq_true h]⟩
  · rw [if_neg h] at e
    have : pwt R W b f < 0 := by rw [e]; split <;> omega
    exact ⟨by rw [beq_eq_false_iff_ne]; omega, by rw [decide_eq_false (by omega), decide_eq_false h]⟩
theorem Tryz.backR (R : List (List Con)) : ∃ X, (isVR R = true → X = R) ∧ PCall Tryz.prog 15 [str (fmtR R)] (.tup [.agg [rR X], .val (.bool (isVR R))]) := by
  rcases Bool.eq_false_or_eq_true (isVR R) with h | h
  · exact ⟨R, fun _ => rfl, by rw [h]; exact Tryz.implPR_ok R h⟩
  · refine ⟨[], fun h' => (by rw [h] at h'; cases h'), ?_⟩
    rw [h, (by rw [fmtR, if_neg (by simp [h])] : fmtR R = [])]
    exact Tryz.implPR_nil
theorem Tryz.backF (f : List Int) : ∃ Z, (isFV f = true → Z = f) ∧ PCall Tryz.prog 19 [str (fmtF f)] (.tup [ri Z, .val (.bool (isFV f))]) := by
  rcases Bool.eq_false_or_eq_true (isFV f) with h | h
  · exact ⟨f, fun _ => rfl, by rw [h]; exact Tryz.implPF_ok f h⟩
  · refine ⟨[], fun h' => (by rw [h] at h'; cases h'), ?_⟩
    rw [h, (by rw [fmtF, if_neg (by simp [h])] : fmtF f = [])]
    exact Tryz.implPF_nil
theorem Tryz.implPSc_ok {t : List UInt8} (ht : t.length ≤ 1048576) {W : List Int} {b : Int} {u : Bool} (h : (psc t = some (W, b) ∧ u = true) ∨ (psc t = none ∧ W = [] ∧ b = 0 ∧ u = false)) : PCall Tryz.prog 17 [str t] (.tup [sS W b, .val (.bool u)]) := by
  refine (Tryz.implPS_f t ht).pcall 4 fun r H hr => ?_
  rw [ScR] at hr
  rcases h with ⟨h, rfl⟩ | ⟨h, rfl, rfl, rfl⟩
  · rw [h] at hr
    obtain ⟨r0, rfl, hf⟩ := hr
    have h1 : viewL H 3 [.agg [r0, .val (.int .i64 b)], .val (.bool true)] = some [sS W b, .val (.bool true)] := viewL_cons_of (view_agg (viewL_cons_of (flat_view hf) (viewL_cons_of view_int viewL_nil_of))) (viewL_cons_of view_bool viewL_nil_of)
    simp only [view, h1]
  · rw [h] at hr
    subst hr
    have h1 : viewL H 3 [.agg [.val (.slice none 0 0), .val (.int .i64 0)], .val (.bool false)] = some [sS [] 0, .val (.bool false)] := viewL_cons_of view_sNil (viewL_cons_of view_bool viewL_nil_of)
    simp only [view, h1]
theorem fmtS_ne {W : List Int} {b : Int} (h : isSc W b = true) : fmtS W b ≠ [] ∧ (fmtS W b).length ≤ 1048576 := by
  obtain ⟨h1, h2, h3, h4⟩ := isSc_facts h
  have e : fmtS W b = fmtB W ++ [45] ++ Lib.itoa b := by rw [fmtS, if_pos h]
  have hb := (digs_of h2).1
  have hi := (itoa_shape b (by omega) (by omega)).2
  refine ⟨by rw [e]; simp, ?_⟩
  rw [e]; simp; omega
theorem Tryz.backS (W : List Int) (b : Int) : ∃ Y c, (isSc W b = true → Y = W ∧ c = b) ∧ Y.length ≤ 1048576 ∧ PCall Tryz.prog 17 [str (fmtS W b)] (.tup [sS Y c, .val (.bool (isSc W b))]) := by
  rcases Bool.eq_false_or_eq_true (isSc W b) with h | h
  · have hn := fmtS_ne h
    exact ⟨W, b, fun _ => ⟨rfl, rfl⟩, by have := (isSc_facts h).1; omega, by rw [h]; exact Tryz.implPSc_ok hn.2 (.inl ⟨psc_fmt rfl hn.1, rfl⟩)⟩
  · refine ⟨[], 0, fun h' => (by rw [h] at h'; cases h'), by simp, ?_⟩
    rw [h, (by rw [fmtS, if_neg (by simp [h])] : fmtS W b = [])]
    exact Tryz.implPSc_ok (by simp) (.inr ⟨by rw [psc, if_neg (fun h => h.1 rfl)], rfl, rfl, rfl⟩)
end Go.Sh

/-
  Rules formatted, a test read: of the reference.
-/
namespace Go.Sh
set_option linter.unusedSimpArgs false
set_option linter.unusedVariables false
open Go Go.Proofs

theorem jn_snoc (L : List (List UInt8)) (x sep : List UInt8) : Lib.join (L ++ [x]) sep = Lib.join L sep ++ (if L.length = 0 then [] else sep) ++ x := by
  by_cases h : L = []
  · subst h; simp [Lib.join_nil, Lib.join_one]
  · rw [join_snoc _ _ _ h, if_neg (fun e => h (List.length_eq_zero_iff.1 e))]
def sepI (k : Nat) (s : List UInt8) : List UInt8 := if k = 0 then [] else s
def ra (R : List (List Con)) (i : Nat) : List UInt8 := Lib.join ((R.take i).map fmtRu) orB
def rs (R : List (List Con)) (i j : Nat) : List UInt8 := ra R i ++ sepI i orB ++ Lib.join (((rg R i).take j).map fmtT) [44]
theorem rs_zero (R : List (List Con)) (i : Nat) : rs R i 0 = ra R i ++ sepI i orB := by rw [rs, List.take_zero, List.map_nil, Lib.join_nil, List.append_nil]
theorem rs_succ {R : List (List Con)} {i j : Nat} (h : j < (rg R i).length) : rs R i (j + 1) = rs R i j ++ sepI j [44] ++ fmtT (cg (rg R i) j) := by
  have e : cg (rg R i) j = (rg R i)[j] := by simp [cg, h]
  rw [rs, rs, List.take_succ_eq_append_getElem h, List.map_append, List.map_cons, List.map_nil, jn_snoc, e, List.length_map, List.length_take, sepI]
  rw [show min j (rg R i).length = j by omega]
  simp only [List.append_assoc, sepI]
theorem rs_all {R : List (List Con)} {i : Nat} (h : i < R.length) : rs R i (rg R i).length = ra R (i + 1) := by
  have e : rg R i = R[i] := by simp [rg, h]
  rw [rs, List.take_length, ra, ra, List.take_succ_eq_append_getElem h, List.map_append, List.map_cons, List.map_nil, jn_snoc, ← e, List.length_map, List.length_take, sepI, fmtRu]
  rw [show min i R.length = i by omega]
theorem ra_len {R : List (List Con)} (h : isVR R = true) {i : Nat} (hi : i ≤ R.length) : (ra R i).length ≤ 6000 := by
  obtain ⟨h1, h2⟩ := isVR_facts h
  have := join_le (sep := orB) (m := 1803) (L := (R.take i).map fmtRu) (fun q hq => by
    obtain ⟨T, hT, rfl⟩ := List.mem_map.1 hq
    have hT := List.mem_of_mem_take hT
    have h3 := fmtRu_len (h2 T hT).2
    have := (h2 T hT).1
    omega)
  rw [List.length_map, List.length_take] at this
  have e4 : orB.length = 4 := rfl
  rw [e4] at this
  rw [ra]; omega
theorem rs_len {R : List (List Con)} (h : isVR R = true) {i j : Nat} (hi : i < R.length) (hj : j ≤ (rg R i).length) : (rs R i j).length ≤ 9000 := by
  obtain ⟨h1, h2⟩ := isVR_facts h
  have h3 := h2 (rg R i) (by simp [rg, hi])
  have h4 := ra_len h (i := i) (by omega)
  have := join_le (sep := [44]) (m := 600) (L := ((rg R i).take j).map fmtT) (fun q hq => by
    obtain ⟨c, hc, rfl⟩ := List.mem_map.1 hq
    exact (fmtT_len (h3.2 c (List.mem_of_mem_take hc))).2)
  rw [List.length_map, List.length_take] at this
  have h5 : (sepI i orB).length ≤ 4 := by unfold sepI; split <;> decide
  have e1 : ([44] : List UInt8).length = 1 := rfl
  rw [e1] at this
  rw [rs, List.length_append, List.length_append]; omega
theorem Tryz.featName_ok {f : Nat} (h : f < 6) : PCall Tryz.prog 112 [.val (.int .i64 f)] (str (fname f)) := by
  have w := Tryz.l1In_ok (f : Int) 0 5
  rw [inR_tt (by omega) (by omega)] at w
  have hg : (strs fnm)[f]? = some (str (fname f)) := nmV_load h
  have hl : (strs fnm).length = 6 := rfl
  refine FCall.pcall (R := fun r _ => r = str (fname f)) ?_ 0 (by rintro r H rfl; exact view_str)
  refine FCall.of_body Tryz.func112 rfl (by kernel_rfl) (by simp [Tryz.ntmps112]) ?_
  refine SW_of_vc Tryz.mixed _ _ _ (by kernel_rfl) ?_
  simp (disch := omega) only [Tryz.ntmps112, Tryz.results112, go_sem]
  refine w.callV 0 (viewL_cons_of (view_int) (viewL_cons_of (view_int) (viewL_cons_of (view_int) viewL_nil_of))) ?_
  have hrep : List.replicate 6 (SV.val (Value.string (sb []))) = [str [], str [], str [], str [], str [], str []] := rfl
  have hcs : [str [110, 97, 109, 101], str [116, 111, 107, 101, 110, 115], str [115, 111, 117, 110, 100], str [99, 105, 116, 121], str [121, 101, 97, 114], str [112, 104, 111, 110, 101]] = strs fnm := rfl
  simp (disch := omega) only [Tryz.ntmps112, Tryz.results112, go_sem, hrep, List.set_cons_zero, List.set_cons_succ, List.length_cons, List.length_nil, hcs, hg, hl]
  exact Fin.val rfl
set_option maxRecDepth 20000 in
set_option maxHeartbeats 8000000 in
theorem Tryz.specFmR_ok (R : List (List Con)) (hv : isVR R = true) : PCall Tryz.prog 100 [.agg [rR R]] (str (fmtR R)) := by
  obtain ⟨⟨hR1, hR3⟩, hok⟩ := isVR_facts hv
  have hT : ∀ i, i < R.length → (rg R i).length ≤ 1048576 := fun i hi => by have := (hok (rg R i) (by simp [rg, hi])).1; omega
  have w := Tryz.specVR_ok R (by omega) hT
  rw [hv] at w
  have hrl := rules_length R
  refine FCall.pcall (R := fun r _ => r = str (fmtR R)) ?_ 0 (by rintro r H rfl; exact view_str)
  refine FCall.of_body Tryz.func100 rfl (by kernel_rfl) (by simp [Tryz.ntmps100]) ?_
  refine SW_of_vc Tryz.mixed _ _ _ (by kernel_rfl) ?_
  simp (disch := omega) only [Tryz.ntmps100, Tryz.results100, go_sem, rR]
  refine w.callV 1 (viewL_cons_of view_rule viewL_nil_of) ?_
  simp (disch := omega) only [Tryz.ntmps100, Tryz.results100, go_sem, rR]
  refine LoopW.loop (fun p : Nat × Nat => ⟨ofL [(1, .optr 0 0), (3, str (ra R p.1)), (4, .val (.int .i64 p.1))], hp [(0, ⟨[rR R], true⟩)] p.2⟩) (fun p => p.1 ≤ R.length ∧ 1 ≤ p.2) (fun p => R.length - p.1) (0, 1) ⟨by simp, by simp⟩ (Wk.of (by simp only [go_sem, ↓List.forall_mem_cons, List.not_mem_nil, false_implies, implies_true, and_true, true_and, and_self, ri_eq, Int.natCast_add, Int.cast_ofNat_Int, rR, show ra R 0 = [] from rfl]; try simp) rfl) ?_
  rintro ⟨i, nb⟩ ⟨hi, hnb⟩
  simp only at hi hnb
  have hral := ra_len hv hi
  refine SW_of_vc Tryz.mixed _ _ _ (by kernel_rfl) ?_
  by_cases hlt : i < R.length
  · have gk := rules_get hlt
    have gl := rules_load hlt
    have hz := rs_zero R i
    obtain ⟨⟨hT1, hT3⟩, hokT⟩ := hok (rg R i) (by simp [rg, hlt])
    have hrsl := fun j (hj : j ≤ (rg R i).length) => rs_len hv hlt hj
    have hsu := fun j (hj : j < (rg R i).length) => rs_succ (R := R) (i := i) (j := j) hj
    have hall := rs_all hlt
    have lC := cons_length (rg R i)
    by_cases hi0 : i = 0
    · have hz0 : rs R i 0 = ra R i := by rw [hz, sepI, if_pos hi0, List.append_nil]
      simp (disch := omega) only [Tryz.ntmps100, Tryz.results100, go_sem, rR, gk, gl, hrl]
      refine LoopW.loop (fun p : Nat × Nat => ⟨ofL [(1, .optr 0 0), (3, str (rs R i p.1)), (4, .val (.int .i64 i)), (5, .val (.int .i64 p.1))], hp [(0, ⟨[rR R], true⟩)] p.2⟩) (fun p => p.1 ≤ (rg R i).length ∧ 1 ≤ p.2) (fun p => (rg R i).length - p.1) (0, nb) ⟨by simp, hnb⟩ (Wk.of (by simp only [go_sem, ↓List.forall_mem_cons, List.not_mem_nil, false_implies, implies_true, and_true, true_and, and_self, ri_eq, Int.natCast_add, Int.cast_ofNat_Int, rR, hz0]; try simp) rfl) ?_
      rintro ⟨j, nb2⟩ ⟨hj, hnb2⟩
      simp only at hj hnb2
      have hrj := hrsl j hj
      refine SW_of_vc Tryz.mixed _ _ _ (by kernel_rfl) ?_
      by_cases hltj : j < (rg R i).length
      · have hld := cons_load (C := rg R i) (k := j) hltj
        have hnx := hsu j hltj
        obtain ⟨⟨f, hf, hf6⟩, hb1, hb2⟩ := hokT (cg (rg R i) j) (by simp [cg, hltj])
        have wN := Tryz.featName_ok hf6
        have hfl := fname_len hf6
        have wI := Tryz.specFI_ok (cg (rg R i) j).2.1 (by omega) (by omega)
        have hil := itoa_k (x := (cg (rg R i) j).2.1) (by omega)
        generalize cg (rg R i) j = c at *
        obtain ⟨a, b, s⟩ := c
        simp only at hf hb1 hb2 wI hil
        subst hf
        simp only [fmtT, Int.toNat_natCast] at hnx
        by_cases hj0 : j = 0
        · rw [sepI, if_pos hj0, List.append_nil] at hnx
          cases s with
          | true =>
            rw [opB, if_pos rfl, ← List.append_assoc, ← List.append_assoc] at hnx
            simp (disch := omega) only [Tryz.ntmps100, Tryz.results100, go_sem, rR, gk, gl, hrl, hld, lC, List.length_append, List.length_singleton, List.length_cons, List.length_nil]
            refine wN.callV 0 (viewL_cons_of (view_int) viewL_nil_of) ?_
            simp (disch := omega) only [Tryz.ntmps100, Tryz.results100, go_sem, rR, gk, gl, hrl, hld, lC, List.length_append, List.length_singleton, List.length_cons, List.length_nil]
            refine wI.callV 0 (viewL_cons_of (view_int) viewL_nil_of) ?_
            simp (disch := omega) only [Tryz.ntmps100, Tryz.results100, go_sem, rR, gk, gl, hrl, hld, lC, List.length_append, List.length_singleton, List.length_cons, List.length_nil]
            exact ⟨(j + 1, nb2 + 1), ⟨hltj, by show 1 ≤ nb2 + 1; omega⟩, by show (rg R i).length - (j + 1) < (rg R i).length - j; omega, Wk.ofH (by simp only [go_sem, ↓List.forall_mem_cons, List.not_mem_nil, false_implies, implies_true, and_true, true_and, and_self, ri_eq, Int.natCast_add, Int.cast_ofNat_Int, rR, ← hnx]; try simp) (by simp only [List.forall_mem_cons, List.not_mem_nil, false_implies, implies_true, and_true]; simp (disch := omega) only [hp_map, hmap_cons, if_pos, if_neg, ↓reduceIte]) (Nat.le_refl _)⟩
          | false =>
            rw [opB, if_neg (by simp), ← List.append_assoc, ← List.append_assoc] at hnx
            simp (disch := omega) only [Tryz.ntmps100, Tryz.results100, go_sem, rR, gk, gl, hrl, hld, lC, List.length_append, List.length_singleton, List.length_cons, List.length_nil]
            refine wN.callV 0 (viewL_cons_of (view_int) viewL_nil_of) ?_
            simp (disch := omega) only [Tryz.ntmps100, Tryz.results100, go_sem, rR, gk, gl, hrl, hld, lC, List.length_append, List.length_singleton, List.length_cons, List.length_nil]
            refine wI.callV 0 (viewL_cons_of (view_int) viewL_nil_of) ?_
            simp (disch := omega) only [Tryz.ntmps100, Tryz.results100, go_sem, rR, gk, gl, hrl, hld, lC, List.length_append, List.length_singleton, List.length_cons, List.length_nil]
            exact ⟨(j + 1, nb2 + 1), ⟨hltj, by show 1 ≤ nb2 + 1; omega⟩, by show (rg R i).length - (j + 1) < (rg R i).length - j; omega, Wk.ofH (by simp only [go_sem, ↓List.forall_mem_cons, List.not_mem_nil, false_implies, implies_true, and_true, true_and, and_self, ri_eq, Int.natCast_add, Int.cast_ofNat_Int, rR, ← hnx]; try simp) (by simp only [List.forall_mem_cons, List.not_mem_nil, false_implies, implies_true, and_true]; simp (disch := omega) only [hp_map, hmap_cons, if_pos, if_neg, ↓reduceIte]) (Nat.le_refl _)⟩
        · rw [sepI, if_neg hj0] at hnx
          cases s with
          | true =>
            rw [opB, if_pos rfl, ← List.append_assoc, ← List.append_assoc] at hnx
            simp (disch := omega) only [Tryz.ntmps100, Tryz.results100, go_sem, rR, gk, gl, hrl, hld, lC, List.length_append, List.length_singleton, List.length_cons, List.length_nil]
            refine wN.callV 0 (viewL_cons_of (view_int) viewL_nil_of) ?_
            simp (disch := omega) only [Tryz.ntmps100, Tryz.results100, go_sem, rR, gk, gl, hrl, hld, lC, List.length_append, List.length_singleton, List.length_cons, List.length_nil]
            refine wI.callV 0 (viewL_cons_of (view_int) viewL_nil_of) ?_
            simp (disch := omega) only [Tryz.ntmps100, Tryz.results100, go_sem, rR, gk, gl, hrl, hld, lC, List.length_append, List.length_singleton, List.length_cons, List.length_nil]
            exact ⟨(j + 1, nb2 + 1), ⟨hltj, by show 1 ≤ nb2 + 1; omega⟩, by show (rg R i).length - (j + 1) < (rg R i).length - j; omega, Wk.ofH (by simp only [go_sem, ↓List.forall_mem_cons, List.not_mem_nil, false_implies, implies_true, and_true, true_and, and_self, ri_eq, Int.natCast_add, Int.cast_ofNat_Int, rR, ← hnx]; try simp) (by simp only [List.forall_mem_cons, List.not_mem_nil, false_implies, implies_true, and_true]; simp (disch := omega) only [hp_map, hmap_cons, if_pos, if_neg, ↓reduceIte]) (Nat.le_refl _)⟩
          | false =>
            rw [opB, if_neg (by simp), ← List.append_assoc, ← List.append_assoc] at hnx
            simp (disch := omega) only [Tryz.ntmps100, Tryz.results100, go_sem, rR, gk, gl, hrl, hld, lC, List.length_append, List.length_singleton, List.length_cons, List.length_nil]
            refine wN.callV 0 (viewL_cons_of (view_int) viewL_nil_of) ?_
            simp (disch := omega) only [Tryz.ntmps100, Tryz.results100, go_sem, rR, gk, gl, hrl, hld, lC, List.length_append, List.length_singleton, List.length_cons, List.length_nil]
            refine wI.callV 0 (viewL_cons_of (view_int) viewL_nil_of) ?_
            simp (disch := omega) only [Tryz.ntmps100, Tryz.results100, go_sem, rR, gk, gl, hrl, hld, lC, List.length_append, List.length_singleton, List.length_cons, List.length_nil]
            exact ⟨(j + 1, nb2 + 1), ⟨hltj, by show 1 ≤ nb2 + 1; omega⟩, by show (rg R i).length - (j + 1) < (rg R i).length - j; omega, Wk.ofH (by simp only [go_sem, ↓List.forall_mem_cons, List.not_mem_nil, false_implies, implies_true, and_true, true_and, and_self, ri_eq, Int.natCast_add, Int.cast_ofNat_Int, rR, ← hnx]; try simp) (by simp only [List.forall_mem_cons, List.not_mem_nil, false_implies, implies_true, and_true]; simp (disch := omega) only [hp_map, hmap_cons, if_pos, if_neg, ↓reduceIte]) (Nat.le_refl _)⟩
      · obtain rfl : j = (rg R i).length := by omega
        simp (disch := omega) only [Tryz.ntmps100, Tryz.results100, go_sem, rR, gk, gl, hrl]
        exact ⟨(i + 1, nb2), ⟨hlt, hnb2⟩, by show R.length - (i + 1) < R.length - i; omega, Wk.of (by simp only [go_sem, ↓List.forall_mem_cons, List.not_mem_nil, false_implies, implies_true, and_true, true_and, and_self, ri_eq, Int.natCast_add, Int.cast_ofNat_Int, rR, hall]; try simp) rfl⟩
    · have hz0 : rs R i 0 = ra R i ++ orB := by rw [hz, sepI, if_neg hi0]
      rw [orB] at hz0
      simp (disch := omega) only [Tryz.ntmps100, Tryz.results100, go_sem, rR, gk, gl, hrl, List.length_cons, List.length_nil]
      refine LoopW.loop (fun p : Nat × Nat => ⟨ofL [(1, .optr 0 0), (3, str (rs R i p.1)), (4, .val (.int .i64 i)), (5, .val (.int .i64 p.1))], hp [(0, ⟨[rR R], true⟩)] p.2⟩) (fun p => p.1 ≤ (rg R i).length ∧ 1 ≤ p.2) (fun p => (rg R i).length - p.1) (0, nb) ⟨by simp, hnb⟩ (Wk.of (by simp only [go_sem, ↓List.forall_mem_cons, List.not_mem_nil, false_implies, implies_true, and_true, true_and, and_self, ri_eq, Int.natCast_add, Int.cast_ofNat_Int, rR, hz0]; try simp) rfl) ?_
      rintro ⟨j, nb2⟩ ⟨hj, hnb2⟩
      simp only at hj hnb2
      have hrj := hrsl j hj
      refine SW_of_vc Tryz.mixed _ _ _ (by kernel_rfl) ?_
      by_cases hltj : j < (rg R i).length
      · have hld := cons_load (C := rg R i) (k := j) hltj
        have hnx := hsu j hltj
        obtain ⟨⟨f, hf, hf6⟩, hb1, hb2⟩ := hokT (cg (rg R i) j) (by simp [cg, hltj])
        have wN := Tryz.featName_ok hf6
        have hfl := fname_len hf6
        have wI := Tryz.specFI_ok (cg (rg R i) j).2.1 (by omega) (by omega)
        have hil := itoa_k (x := (cg (rg R i) j).2.1) (by omega)
        generalize cg (rg R i) j = c at *
        obtain ⟨a, b, s⟩ := c
        simp only at hf hb1 hb2 wI hil
        subst hf
        simp only [fmtT, Int.toNat_natCast] at hnx
        by_cases hj0 : j = 0
        · rw [sepI, if_pos hj0, List.append_nil] at hnx
          cases s with
          | true =>
            rw [opB, if_pos rfl, ← List.append_assoc, ← List.append_assoc] at hnx
            simp (disch := omega) only [Tryz.ntmps100, Tryz.results100, go_sem, rR, gk, gl, hrl, hld, lC, List.length_append, List.length_singleton, List.length_cons, List.length_nil]
            refine wN.callV 0 (viewL_cons_of (view_int) viewL_nil_of) ?_
            simp (disch := omega) only [Tryz.ntmps100, Tryz.results100, go_sem, rR, gk, gl, hrl, hld, lC, List.length_append, List.length_singleton, List.length_cons, List.length_nil]
            refine wI.callV 0 (viewL_cons_of (view_int) viewL_nil_of) ?_
            simp (disch := omega) only [Tryz.ntmps100, Tryz.results100, go_sem, rR, gk, gl, hrl, hld, lC, List.length_append, List.length_singleton, List.length_cons, List.length_nil]
            exact ⟨(j + 1, nb2 + 1), ⟨hltj, by show 1 ≤ nb2 + 1; omega⟩, by show (rg R i).length - (j + 1) < (rg R i).length - j; omega, Wk.ofH (by simp only [go_sem, ↓List.forall_mem_cons, List.not_mem_nil, false_implies, implies_true, and_true, true_and, and_self, ri_eq, Int.natCast_add, Int.cast_ofNat_Int, rR, ← hnx]; try simp) (by simp only [List.forall_mem_cons, List.not_mem_nil, false_implies, implies_true, and_true]; simp (disch := omega) only [hp_map, hmap_cons, if_pos, if_neg, ↓reduceIte]) (Nat.le_refl _)⟩
          | false =>
            rw [opB, if_neg (by simp), ← List.append_assoc, ← List.append_assoc] at hnx
            simp (disch := omega) only [Tryz.ntmps100, Tryz.results100, go_sem, rR, gk, gl, hrl, hld, lC, List.length_append, List.length_singleton, List.length_cons, List.length_nil]
            refine wN.callV 0 (viewL_cons_of (view_int) viewL_nil_of) ?_
            simp (disch := omega) only [Tryz.ntmps100, Tryz.results100, go_sem, rR, gk, gl, hrl, hld, lC, List.length_append, List.length_singleton, List.length_cons, List.length_nil]
            refine wI.callV 0 (viewL_cons_of (view_int) viewL_nil_of) ?_
            simp (disch := omega) only [Tryz.ntmps100, Tryz.results100, go_sem, rR, gk, gl, hrl, hld, lC, List.length_append, List.length_singleton, List.length_cons, List.length_nil]
            exact ⟨(j + 1, nb2 + 1), ⟨hltj, by show 1 ≤ nb2 + 1; omega⟩, by show (rg R i).length - (j + 1) < (rg R i).length - j; omega, Wk.ofH (by simp only [go_sem, ↓List.forall_mem_cons, List.not_mem_nil, false_implies, implies_true, and_true, true_and, and_self, ri_eq, Int.natCast_add, Int.cast_ofNat_Int, rR, ← hnx]; try simp) (by simp only [List.forall_mem_cons, List.not_mem_nil, false_implies, implies_true, and_true]; simp (disch := omega) only [hp_map, hmap_cons, if_pos, if_neg, ↓reduceIte]) (Nat.le_refl _)⟩
        · rw [sepI, if_neg hj0] at hnx
          cases s with
          | true =>
            rw [opB, if_pos rfl, ← List.append_assoc, ← List.append_assoc] at hnx
            simp (disch := omega) only [Tryz.ntmps100, Tryz.results100, go_sem, rR, gk, gl, hrl, hld, lC, List.length_append, List.length_singleton, List.length_cons, List.length_nil]
            refine wN.callV 0 (viewL_cons_of (view_int) viewL_nil_of) ?_
            simp (disch := omega) only [Tryz.ntmps100, Tryz.results100, go_sem, rR, gk, gl, hrl, hld, lC, List.length_append, List.length_singleton, List.length_cons, List.length_nil]
            refine wI.callV 0 (viewL_cons_of (view_int) viewL_nil_of) ?_
            simp (disch := omega) only [Tryz.ntmps100, Tryz.results100, go_sem, rR, gk, gl, hrl, hld, lC, List.length_append, List.length_singleton, List.length_cons, List.length_nil]
            exact ⟨(j + 1, nb2 + 1), ⟨hltj, by show 1 ≤ nb2 + 1; omega⟩, by show (rg R i).length - (j + 1) < (rg R i).length - j; omega, Wk.ofH (by simp only [go_sem, ↓List.forall_mem_cons, List.not_mem_nil, false_implies, implies_true, and_true, true_and, and_self, ri_eq, Int.natCast_add, Int.cast_ofNat_Int, rR, ← hnx]; try simp) (by simp only [List.forall_mem_cons, List.not_mem_nil, false_implies, implies_true, and_true]; simp (disch := omega) only [hp_map, hmap_cons, if_pos, if_neg, ↓reduceIte]) (Nat.le_refl _)⟩
          | false =>
            rw [opB, if_neg (by simp), ← List.append_assoc, ← List.append_assoc] at hnx
            simp (disch := omega) only [Tryz.ntmps100, Tryz.results100, go_sem, rR, gk, gl, hrl, hld, lC, List.length_append, List.length_singleton, List.length_cons, List.length_nil]
            refine wN.callV 0 (viewL_cons_of (view_int) viewL_nil_of) ?_
            simp (disch := omega) only [Tryz.ntmps100, Tryz.results100, go_sem, rR, gk, gl, hrl, hld, lC, List.length_append, List.length_singleton, List.length_cons, List.length_nil]
            refine wI.callV 0 (viewL_cons_of (view_int) viewL_nil_of) ?_
            simp (disch := omega) only [Tryz.ntmps100, Tryz.results100, go_sem, rR, gk, gl, hrl, hld, lC, List.length_append, List.length_singleton, List.length_cons, List.length_nil]
            exact ⟨(j + 1, nb2 + 1), ⟨hltj, by show 1 ≤ nb2 + 1; omega⟩, by show (rg R i).length - (j + 1) < (rg R i).length - j; omega, Wk.ofH (by simp only [go_sem, ↓List.forall_mem_cons, List.not_mem_nil, false_implies, implies_true, and_true, true_and, and_self, ri_eq, Int.natCast_add, Int.cast_ofNat_Int, rR, ← hnx]; try simp) (by simp only [List.forall_mem_cons, List.not_mem_nil, false_implies, implies_true, and_true]; simp (disch := omega) only [hp_map, hmap_cons, if_pos, if_neg, ↓reduceIte]) (Nat.le_refl _)⟩
      · obtain rfl : j = (rg R i).length := by omega
        simp (disch := omega) only [Tryz.ntmps100, Tryz.results100, go_sem, rR, gk, gl, hrl]
        exact ⟨(i + 1, nb2), ⟨hlt, hnb2⟩, by show R.length - (i + 1) < R.length - i; omega, Wk.of (by simp only [go_sem, ↓List.forall_mem_cons, List.not_mem_nil, false_implies, implies_true, and_true, true_and, and_self, ri_eq, Int.natCast_add, Int.cast_ofNat_Int, rR, hall]; try simp) rfl⟩
  · obtain rfl : i = R.length := by omega
    have hfin : ra R R.length = fmtR R := by rw [ra, List.take_length, fmtR, if_pos hv]
    simp (disch := omega) only [Tryz.ntmps100, Tryz.results100, go_sem, rR, hrl]
    exact Fin.val (by rw [hfin])
end Go.Sh

/-
  A test read: of the reference.
-/
namespace Go.Sh
set_option linter.unusedSimpArgs false
set_option linter.unusedVariables false
open Go Go.Proofs

theorem itoa_pos (n : Int) : 1 ≤ (Lib.itoa n).length := by
  unfold Lib.itoa
  split
  · simp
  · exact List.length_pos_iff.2 (decDigits_facts _).2.2
theorem fname_ne {n f : Nat} (hn : n < f) (hf : f < 6) (q : List UInt8) : ((fname f ++ q).take (fname n).length == fname n) = false := by
  rw [beq_eq_false_iff_ne]
  intro e
  have h1 : (fname f ++ q).head? = (fname n).head? := by
    rw [← e]
    have : (fname n).length ≠ 0 := by
      have : n = 0 ∨ n = 1 ∨ n = 2 ∨ n = 3 ∨ n = 4 := by omega
      rcases this with rfl | rfl | rfl | rfl | rfl <;> decide
    rw [List.head?_take, if_neg this]
  have h2 : (fname f ++ q).head? = (fname f).head? := by
    have : fname f ≠ [] := by
      have : f = 0 ∨ f = 1 ∨ f = 2 ∨ f = 3 ∨ f = 4 ∨ f = 5 := by omega
      rcases this with rfl | rfl | rfl | rfl | rfl | rfl <;> decide
    cases hh : fname f with
    | nil => exact absurd hh this
    | cons x r => rfl
  rw [h2] at h1
  have hf' : f = 1 ∨ f = 2 ∨ f = 3 ∨ f = 4 ∨ f = 5 := by omega
  have hn' : n = 0 ∨ n = 1 ∨ n = 2 ∨ n = 3 ∨ n = 4 := by omega
  rcases hf' with rfl | rfl | rfl | rfl | rfl <;> rcases hn' with rfl | rfl | rfl | rfl | rfl <;> first | omega | exact absurd h1 (by decide)
abbrev tst (c : Con) : SV := .agg [.val (.int .i64 c.1), .val (.int .i64 c.2.1), .val (.bool c.2.2)]
set_option maxHeartbeats 8000000 in
theorem Tryz.l14Test_ok (c : Con) (h : OkC c) : PCall Tryz.prog 99 [str (fmtT c)] (tst c) := by
  have hlen := fmtT_len h
  obtain ⟨⟨f, hf, hf6⟩, h1, h2⟩ := h
  obtain ⟨a, b, s⟩ := c
  simp only at hf h1 h2
  subst hf
  have hpi : pint (Lib.itoa b) = some b := pint_itoa (by omega) (by omega)
  have hil := itoa_k (x := b) (by omega)
  have hip := itoa_pos b
  have wP := Tryz.specPI_ok (Lib.itoa b) (by omega)
  rw [pIR, hpi] at wP
  have hfl := fname_len hf6
  have hne := fun n (hn : n < f) => fname_ne hn hf6 (opB s ++ Lib.itoa b)
  have ht : fmtT ((f : Int), b, s) = fname f ++ (opB s ++ Lib.itoa b) := by simp [fmtT]
  have htl : (fmtT ((f : Int), b, s)).length = (fname f).length + (opB s ++ Lib.itoa b).length := by rw [ht, List.length_append]
  have htk : (fmtT ((f : Int), b, s)).take (fname f).length = fname f := by rw [ht, List.take_left]
  have hdr : (fmtT ((f : Int), b, s)).drop (fname f).length = opB s ++ Lib.itoa b := by rw [ht, List.drop_left]
  rw [← ht] at hne
  have hrefl : (fname f == fname f) = true := beq_self_eq_true _
  refine FCall.pcall (R := fun r _ => r = tst ((f : Int), b, s)) ?_ 1 (by rintro r H rfl; exact view_con)
  refine FCall.of_body Tryz.func99 rfl (by kernel_rfl) (by simp [Tryz.ntmps99]) ?_
  refine SW_of_vc Tryz.mixed _ _ _ (by kernel_rfl) ?_
  generalize fmtT ((f : Int), b, s) = t at *
  simp (disch := omega) only [Tryz.ntmps99, Tryz.results99, go_sem]
  refine LoopW.loop (fun n : Nat => ⟨ofL [(0, str t), (2, .optr 0 0), (3, .val (.int .i64 n))], hp [(0, ⟨[.val (.int .i64 0), .val (.int .i64 0), .val (.bool false)], true⟩)] 1⟩) (fun n => n ≤ f) (fun n => f - n) 0 (by omega) (Wk.of (by simp only [go_sem, ↓List.forall_mem_cons, List.not_mem_nil, false_implies, implies_true, and_true, true_and, and_self, ri_eq, Int.natCast_add, Int.cast_ofNat_Int]; try simp) rfl) ?_
  intro n hn
  refine SW_of_vc Tryz.mixed _ _ _ (by kernel_rfl) ?_
  by_cases hlt : n < f
  · have wN := Tryz.featName_ok (f := n) (by omega)
    have hnl := fname_len (i := n) (by omega)
    have he := hne n hlt
    by_cases hgt : (fname n).length < t.length
    · simp (disch := omega) only [Tryz.ntmps99, Tryz.results99, go_sem]
      refine wN.callV 0 (viewL_cons_of (view_int) viewL_nil_of) ?_
      simp (disch := omega) only [Tryz.ntmps99, Tryz.results99, go_sem, he]
      exact ⟨n + 1, hlt, by omega, Wk.of (by simp only [go_sem, ↓List.forall_mem_cons, List.not_mem_nil, false_implies, implies_true, and_true, true_and, and_self, ri_eq, Int.natCast_add, Int.cast_ofNat_Int]; try simp) rfl⟩
    · simp (disch := omega) only [Tryz.ntmps99, Tryz.results99, go_sem]
      refine wN.callV 0 (viewL_cons_of (view_int) viewL_nil_of) ?_
      simp (disch := omega) only [Tryz.ntmps99, Tryz.results99, go_sem]
      exact ⟨n + 1, hlt, by omega, Wk.of (by simp only [go_sem, ↓List.forall_mem_cons, List.not_mem_nil, false_implies, implies_true, and_true, true_and, and_self, ri_eq, Int.natCast_add, Int.cast_ofNat_Int]; try simp) rfl⟩
  · obtain rfl : n = f := by omega
    have wN := Tryz.featName_ok hf6
    have hda : (t.drop (fname n).length).take (t.length - (fname n).length) = opB s ++ Lib.itoa b := by
      rw [hdr]; exact List.take_of_length_le (by omega)
    have hdl : 1 ≤ (opB s ++ Lib.itoa b).length := by rw [List.length_append]; omega
    have hix := sb_ix0 (s := opB s ++ Lib.itoa b) (by omega)
    cases s with
    | true =>
      have h60 : (opB true ++ Lib.itoa b).getD 0 0 = 60 := rfl
      have hd1 : ((opB true ++ Lib.itoa b).drop 1).take ((opB true ++ Lib.itoa b).length - 1) = Lib.itoa b := List.take_of_length_le (by simp [opB])
      rw [h60] at hix
      have h6b : (((60 : UInt8).toNat : Int) == 60) = true := by decide
      generalize opB true ++ Lib.itoa b = d at *
      simp (disch := omega) only [Tryz.ntmps99, Tryz.results99, go_sem]
      refine wN.callV 0 (viewL_cons_of (view_int) viewL_nil_of) ?_
      simp (disch := omega) only [Tryz.ntmps99, Tryz.results99, go_sem, htk, hrefl, hda, hix, h6b, hd1]
      refine wP.callV 0 (viewL_cons_of view_str viewL_nil_of) ?_
      simp (disch := omega) only [Tryz.ntmps99, Tryz.results99, go_sem, Option.getD_some]
      exact Fin.agg rfl rfl
    | false =>
      have h62 : (opB false ++ Lib.itoa b).getD 0 0 = 62 := rfl
      have hd2 : ((opB false ++ Lib.itoa b).drop 2).take ((opB false ++ Lib.itoa b).length - 2) = Lib.itoa b := List.take_of_length_le (by simp [opB])
      have ht2 : (opB false ++ Lib.itoa b).take 2 = [62, 61] := rfl
      have hl3 : 2 < (opB false ++ Lib.itoa b).length := by rw [List.length_append]; have : (opB false).length = 2 := rfl; omega
      rw [h62] at hix
      have h6b : (((62 : UInt8).toNat : Int) == 60) = false := by decide
      have hr2 : (([62, 61] : List UInt8) == [62, 61]) = true := rfl
      generalize opB false ++ Lib.itoa b = d at *
      simp (disch := omega) only [Tryz.ntmps99, Tryz.results99, go_sem]
      refine wN.callV 0 (viewL_cons_of (view_int) viewL_nil_of) ?_
      simp (disch := omega) only [Tryz.ntmps99, Tryz.results99, go_sem, htk, hrefl, hda, hix, h6b, hd2, ht2, hr2]
      refine wP.callV 0 (viewL_cons_of view_str viewL_nil_of) ?_
      simp (disch := omega) only [Tryz.ntmps99, Tryz.results99, go_sem, Option.getD_some]
      exact Fin.agg rfl rfl
end Go.Sh

/-
  Rules read: of the reference, at the text of valid rules.
-/
namespace Go.Sh
set_option linter.unusedSimpArgs false
set_option linter.unusedVariables false
open Go Go.Proofs

def ilv : List (List UInt8) → List (List UInt8)
  | [] => []
  | [p] => [p]
  | p :: q :: L => p :: [111, 114] :: ilv (q :: L)
theorem ilv_cut : ∀ {L : List (List UInt8)}, L ≠ [] → (∀ q ∈ L, (32 : UInt8) ∉ q) → cutL 32 (Lib.join L orB) = ilv L
  | [], h, _ => absurd rfl h
  | [p], _, h => by rw [Lib.join_one, cutL_none (h p (by simp)), ilv]
  | p :: q :: L, _, h => by
    have e : Lib.join (p :: q :: L) orB = p ++ 32 :: ([111, 114] ++ 32 :: Lib.join (q :: L) orB) := by
      rw [Lib.join_cons, Lib.join_cons]; simp [Lib.joinTail, orB]
    have ih := ilv_cut (L := q :: L) (by simp) (fun r hr => h r (List.mem_cons_of_mem _ hr))
    rw [e, cutL_app (h p (by simp)), cutL_app (by decide), ih, ilv]
theorem ilv_len : ∀ {L : List (List UInt8)}, L ≠ [] → (ilv L).length + 1 = 2 * L.length
  | [], h => absurd rfl h
  | [p], _ => rfl
  | p :: q :: L, _ => by
    have ih := ilv_len (L := q :: L) (by simp)
    rw [ilv]; simp only [List.length_cons] at ih ⊢; omega
theorem ilv_at : ∀ {L : List (List UInt8)} {k : Nat}, k < L.length → (ilv L).getD (2 * k) [] = L.getD k []
  | [], k, h => by simp at h
  | [p], k, h => by
    have : k = 0 := by simpa using h
    subst this; rfl
  | p :: q :: L, 0, _ => rfl
  | p :: q :: L, k + 1, h => by
    have ih := ilv_at (L := q :: L) (k := k) (by simpa using h)
    rw [ilv, show 2 * (k + 1) = 2 * k + 1 + 1 by omega, List.getD_cons_succ, List.getD_cons_succ, ih, List.getD_cons_succ]
theorem rg_mem {R : List (List Con)} {i : Nat} (h : i < R.length) : rg R i ∈ R := by
  rw [show rg R i = R[i] by simp [rg, h]]; exact List.getElem_mem h
theorem cg_mem {T : List Con} {i : Nat} (h : i < T.length) : cg T i ∈ T := by
  rw [show cg T i = T[i] by simp [cg, h]]; exact List.getElem_mem h
def RuF (R : List (List Con)) (u : Bool) (r : SV) (H : Heap) : Prop := ∃ ob cs nm, r = .tup [.agg [nlG 1 ob R.length], .val (.bool u)] ∧ RuH H 0 R ob cs nm
open Classical in
theorem fin_ruF {H : Heap} {lo ob : Nat} {cs : List SV} {nm : Nat → Nat} {R : List (List Con)} {u : Bool} (hR : RuH H lo R ob cs nm) : Fin (RuF R u) (.tup [.agg [nlG 1 ob R.length], .val (.bool u)]) H := by
  let p : Nat → Prop := fun b => (R.length ≠ 0 ∧ b = ob) ∨ (∃ i, i < R.length ∧ (rg R i).length ≠ 0 ∧ b = nm i)
  have hR2 := hR.part p (fun h => .inl ⟨h, rfl⟩) (fun i hi h => .inr ⟨i, hi, h, rfl⟩)
  refine ⟨part H p, part_sub H p, ?_, fun b blk hb => ?_, ob, cs, nm, rfl, hR2.low (by omega)⟩
  · simp only [noRow, noRowL, noRow_nlG, Bool.and_self]
  · have hb' : (if p b then H.map b else none) = some blk := hb
    split at hb'
    · rename_i hp
      rcases hp with ⟨h0, rfl⟩ | ⟨i, hi, h0, rfl⟩
      · rw [hR.o h0] at hb'; simp at hb'; subst hb'; exact hR.nr
      · rw [((hR.row i hi).2 h0).1] at hb'; simp at hb'; subst hb'; exact noRowL_cons _
    · simp at hb'
set_option maxRecDepth 20000 in
set_option maxHeartbeats 16000000 in
theorem Tryz.specPR_f (R : List (List Con)) (hv : isVR R = true) : FCall Tryz.prog 78 [str (fmtR R)] (RuF R true) := by
  obtain ⟨⟨hR1, hR3⟩, hok⟩ := isVR_facts hv
  have hle := fmtR_len hv
  have wF := Tryz.specFmR_ok R hv
  have hne : R ≠ [] := by intro h; rw [h] at hR1; simp at hR1
  have hno : ∀ q ∈ R.map fmtRu, (32 : UInt8) ∉ q := fun q hq => by
    obtain ⟨T, hT, rfl⟩ := List.mem_map.1 hq
    exact fmtRu_no (hok T hT).2
  have hfe : fmtR R = Lib.join (R.map fmtRu) orB := by rw [fmtR, if_pos hv]
  have hcutR : cutL 32 (fmtR R) = ilv (R.map fmtRu) := by rw [hfe]; exact ilv_cut (by simpa using hne) hno
  have hPl : (ilv (R.map fmtRu)).length + 1 = 2 * R.length := by
    have := ilv_len (L := R.map fmtRu) (by simpa using hne)
    simpa using this
  have hPg : ∀ i, i < R.length → (ilv (R.map fmtRu)).getD (2 * i) [] = fmtRu (rg R i) := fun i hi => by
    rw [ilv_at (by simpa using hi)]; simp [rg, hi]
  have wS : PCall Tryz.prog 98 [str (fmtR R), .val (.int .u8 32)] (rst (cutL 32 (fmtR R))) := Tryz.l2Cut_ok (fmtR R) 32 (by omega)
  rw [hcutR] at wS
  have ht0 : (fmtR R == ([] : List UInt8)) = false := by
    rw [beq_eq_false_iff_ne]
    intro h
    have h1 := hPl
    rw [← hcutR, h] at h1
    have h2 := hPg 0 (by omega)
    rw [← hcutR, h] at h2
    have h3 := hok (rg R 0) (rg_mem (by omega))
    have h4 : fmtRu (rg R 0) = [] := h2.symm
    have h5 := fmtRu_cut (by intro hh; rw [hh] at h3; simp at h3) h3.2
    rw [h4, (show cutL 44 [] = [[]] from rfl)] at h5
    generalize rg R 0 = T at *
    cases T with
    | nil => simp at h5
    | cons c T =>
      rw [List.map_cons] at h5
      have h6 := (List.cons.inj h5).1
      have h8 := fmtT_len (h3.2 c (by simp))
      rw [← h6] at h8
      simp at h8
  refine FCall.of_body Tryz.func78 rfl (by kernel_rfl) (by simp [Tryz.ntmps78]) ?_
  refine SW_of_vc2 (onD 12 [(42, 49)] []) Tryz.mixed _ _ _ (by kernel_rfl) ?_
  generalize ilv (R.map fmtRu) = P at *
  generalize hft : fmtR R = t at *
  have hrefl : (t == t) = true := beq_self_eq_true t
  simp (disch := omega) only [Tryz.ntmps78, Tryz.results78, go_sem]
  refine wS.callV 0 (viewL_cons_of view_str (viewL_cons_of view_int viewL_nil_of)) ?_
  simp (disch := omega) only [Tryz.ntmps78, Tryz.results78, go_sem, rst]
  refine LoopW.loop (fun y : Nat × Nat × List SV × (Nat → Nat) × Heap => ⟨ofL [(0, str t), (2, .optr 0 0), (4, .optr 1 0), (5, .optr 2 0), (6, rst P), (7, .val (.int .i64 y.1))], y.2.2.2.2⟩)
    (fun y => y.1 ≤ P.length ∧ RuH y.2.2.2.2 3 (R.take ((y.1 + 1) / 2)) y.2.1 y.2.2.1 y.2.2.2.1 ∧ y.2.2.2.2.map 0 = some ⟨[.val (.slice none 0 0)], true⟩ ∧ y.2.2.2.2.map 1 = some ⟨[nlG 1 y.2.1 ((y.1 + 1) / 2)], true⟩ ∧ y.2.2.2.2.map 2 = some ⟨[.val (.slice none 0 0)], true⟩ ∧ 3 ≤ y.2.2.2.2.nb) (fun y => P.length - y.1)
    (0, 0, [], fun _ => 0, hp [(2, ⟨[.val (.slice none 0 0)], true⟩), (1, ⟨[.val (.slice none 0 0)], true⟩), (0, ⟨[.val (.slice none 0 0)], true⟩)] 3) ⟨by simp, RuH.nil, (by first | rfl | (simp (disch := omega) only [hx_map, hp_map, xmap_blk, hmap_cons, xmap_skipI, xmap_nil, if_pos, if_neg, ↓reduceIte]; try rfl)), (by first | rfl | (simp (disch := omega) only [hx_map, hp_map, xmap_blk, hmap_cons, xmap_skipI, xmap_nil, if_pos, if_neg, ↓reduceIte]; try rfl)), (by first | rfl | (simp (disch := omega) only [hx_map, hp_map, xmap_blk, hmap_cons, xmap_skipI, xmap_nil, if_pos, if_neg, ↓reduceIte]; try rfl)), by show 3 ≤ 3; omega⟩ (Wk.of (by simp only [go_sem, ↓List.forall_mem_cons, List.not_mem_nil, false_implies, implies_true, and_true, true_and, and_self, ri_eq, Int.natCast_add, Int.cast_ofNat_Int, rst]; try simp) rfl) ?_
  rintro ⟨i, ob, cs, nm, H0⟩ ⟨hi, hRu, hm0, hm1, hm2, hnb⟩
  simp only at hi hRu hm0 hm1 hm2 hnb
  refine SW_of_vc2 (onD 12 [(42, 49)] []) Tryz.mixed _ _ _ (by kernel_rfl) ?_
  by_cases hlt : i < P.length
  · by_cases hodd : i % 2 = 1
    · have hrem : Int.tmod (i : Int) 2 = 1 := by have := Int.tmod_eq_emod_of_nonneg (a := (i : Int)) (b := 2) (by omega); omega
      have hhalf : (i + 1 + 1) / 2 = (i + 1) / 2 := by omega
      simp (disch := omega) only [Tryz.ntmps78, Tryz.results78, go_sem, rst, hrem]
      refine ⟨(i + 1, ob, cs, nm, H0), ⟨hlt, ?_, hm0, ?_, hm2, hnb⟩, by show P.length - (i + 1) < P.length - i; omega, Wk.of (by simp only [go_sem, ↓List.forall_mem_cons, List.not_mem_nil, false_implies, implies_true, and_true, true_and, and_self, ri_eq, Int.natCast_add, Int.cast_ofNat_Int, rst]; try simp) rfl⟩
      · simp only [hhalf]; exact hRu
      · simp only [hhalf]; exact hm1
    · have hrem : Int.tmod (i : Int) 2 = 0 := by have := Int.tmod_eq_emod_of_nonneg (a := (i : Int)) (b := 2) (by omega); omega
      obtain ⟨k, hk⟩ : ∃ k, i = 2 * k := ⟨i / 2, by omega⟩
      have hhalf : (i + 1) / 2 = k := by omega
      have hhalf2 : (i + 1 + 1) / 2 = k + 1 := by omega
      rw [hhalf] at hRu hm1
      have hkR : k < R.length := by omega
      have hkl : (R.take k).length = k := by rw [List.length_take]; omega
      have hg := strs_get hlt
      rw [hk, hPg k hkR, ← hk] at hg
      obtain ⟨⟨hT1, hT3⟩, hokT⟩ := hok (rg R k) (rg_mem hkR)
      have hru := fmtRu_len hokT
      have wC : PCall Tryz.prog 98 [str (fmtRu (rg R k)), .val (.int .u8 44)] (rst (cutL 44 (fmtRu (rg R k)))) := Tryz.l2Cut_ok (fmtRu (rg R k)) 44 (by omega)
      rw [fmtRu_cut (by intro h; rw [h] at hT1; simp at hT1) hokT] at wC
      have hQl : ((rg R k).map fmtT).length = (rg R k).length := by simp
      have hQg : ∀ j, j < (rg R k).length → (strs ((rg R k).map fmtT))[j]? = some (str (fmtT (cg (rg R k) j))) := fun j hj => by simp [strs, cg, hj]
      have hsnR := take_rg hkR
      generalize fmtRu (rg R k) = tx at *
      generalize (rg R k).map fmtT = Q at *
      generalize rg R k = T at *
      simp (disch := omega) only [Tryz.ntmps78, Tryz.results78, go_sem, rst, hrem, hg]
      refine wC.callV 0 (viewL_cons_of view_str (viewL_cons_of view_int viewL_nil_of)) ?_
      simp (disch := omega) only [Tryz.ntmps78, Tryz.results78, go_sem, rst, hrem, hg]
      refine LoopW.loop (fun y : Nat × Nat × Heap => ⟨ofL [(0, str t), (2, .optr 0 0), (4, .optr 1 0), (5, .optr 2 0), (6, rst P), (7, .val (.int .i64 i)), (8, rst Q), (9, .val (.int .i64 y.1))], y.2.2⟩)
        (fun y => y.1 ≤ T.length ∧ (∀ b, b < H0.nb → b ≠ 2 → y.2.2.map b = H0.map b) ∧ H0.nb ≤ y.2.2.nb ∧ y.2.2.map 2 = some ⟨[nlG 3 y.2.1 y.1], true⟩ ∧ (y.1 ≠ 0 → H0.nb ≤ y.2.1 ∧ y.2.1 < y.2.2.nb ∧ y.2.2.map y.2.1 = some ⟨cons (T.take y.1), false⟩)) (fun y => T.length - y.1)
        (0, 0, H0) ⟨by simp, fun b _ _ => rfl, Nat.le_refl _, hm2, fun h => absurd rfl h⟩ (Wk.of (by simp only [go_sem, ↓List.forall_mem_cons, List.not_mem_nil, false_implies, implies_true, and_true, true_and, and_self, ri_eq, Int.natCast_add, Int.cast_ofNat_Int, rst]; try simp) rfl) ?_
      rintro ⟨j, tb, H⟩ ⟨hj, hfr, hnb2, hmr, hmt⟩
      simp only at hj hfr hnb2 hmr hmt
      refine SW_of_vc2 (onD 12 [(42, 49)] []) Tryz.mixed _ _ _ (by kernel_rfl) ?_
      by_cases hltj : j < T.length
      · have hq := hQg j hltj
        have wT := Tryz.l14Test_ok (cg T j) (hokT (cg T j) (cg_mem hltj))
        have hsn := take_cg hltj
        generalize fmtT (cg T j) = tj at *
        by_cases hz : j = 0
        · have e0 := nlG_t (z := 3) (b := tb) hz
          rw [e0] at hmr
          simp (disch := omega) only [Tryz.ntmps78, Tryz.results78, go_sem, rst, hq, hQl, hmr]
          have hT0 : cons (T.take j) = [] := by rw [hz]; rfl
          rw [hT0, List.nil_append] at hsn
          have e2 : ∀ b, nlG 3 b (j + 1) = .own b 0 1 1 3 false := fun b => by rw [hz]; rfl
          refine wT.callDV 0 (viewL_cons_of view_str viewL_nil_of) ?_
          simp (disch := omega) only [Tryz.ntmps78, Tryz.results78, go_sem, rst, hq, hQl, hmr, repC, hset_map, hpush_map, hset_nb, hpush_nb]
          refine ⟨(j + 1, H.nb + 1, _), ⟨hltj, fun b hb hb2 => ?_, ?_, ?_, fun _ => ⟨?_, ?_, ?_⟩⟩, by show T.length - (j + 1) < T.length - j; omega, Wk.of (by simp only [go_sem, ↓List.forall_mem_cons, List.not_mem_nil, false_implies, implies_true, and_true, true_and, and_self, ri_eq, Int.natCast_add, Int.cast_ofNat_Int, rst, hQl]; try simp) rfl⟩
          · simp only
            simp (disch := omega) only [hset_map, hpush_map, hset_nb, hpush_nb, if_pos, if_neg, ↓reduceIte]
            exact hfr b hb hb2
          · simp only [hset_nb, hpush_nb]; omega
          · simp only [e2]
            simp (disch := omega) only [hset_map, hpush_map, hset_nb, hpush_nb, if_pos, if_neg, ↓reduceIte]
          · simp only; omega
          · simp only [hset_nb, hpush_nb]; omega
          · simp only [← hsn]
            simp (disch := omega) only [hset_map, hpush_map, hset_nb, hpush_nb, if_pos, if_neg, ↓reduceIte]
        · have e0 := nlG_f (z := 3) (b := tb) hz
          obtain ⟨m1, m2, m3⟩ := hmt hz
          rw [e0] at hmr
          have hjL : (cons (T.take j)).length = j * 3 := by rw [cons_length, List.length_take]; omega
          have hjT : (cons (T.take j)).take (j * 3) = cons (T.take j) := List.take_of_length_le (by omega)
          generalize cons (T.take j) = A at *
          simp (disch := omega) only [Tryz.ntmps78, Tryz.results78, go_sem, rst, hq, hQl, hmr]
          refine wT.callDV 0 (viewL_cons_of view_str viewL_nil_of) ?_
          simp (disch := omega) only [Tryz.ntmps78, Tryz.results78, go_sem, rst, hq, hQl, hmr, m3, hjL, hjT, hsn, repC, hset_map, hpush_map, hset_nb, hpush_nb]
          have e2 : ∀ b, nlG 3 b (j + 1) = .own b 0 (j + 1) (j + 1) 3 false := fun b => nlG_s
          refine ⟨(j + 1, H.nb + 1, _), ⟨hltj, fun b hb hb2 => ?_, ?_, ?_, fun _ => ⟨?_, ?_, ?_⟩⟩, by show T.length - (j + 1) < T.length - j; omega, Wk.of (by simp only [go_sem, ↓List.forall_mem_cons, List.not_mem_nil, false_implies, implies_true, and_true, true_and, and_self, ri_eq, Int.natCast_add, Int.cast_ofNat_Int, rst, hQl]; try simp) rfl⟩
          · simp only
            simp (disch := omega) only [hset_map, hpush_map, hset_nb, hpush_nb, if_pos, if_neg, ↓reduceIte]
            exact hfr b hb hb2
          · simp only [hset_nb, hpush_nb]; omega
          · simp only [e2]
            simp (disch := omega) only [hset_map, hpush_map, hset_nb, hpush_nb, if_pos, if_neg, ↓reduceIte]
          · simp only; omega
          · simp only [hset_nb, hpush_nb]; omega
          · simp only
            simp (disch := omega) only [hset_map, hpush_map, hset_nb, hpush_nb, if_pos, if_neg, ↓reduceIte]
      · obtain rfl : j = T.length := by omega
        have hTz : T.length ≠ 0 := by omega
        obtain ⟨m1, m2, m3⟩ := hmt hTz
        rw [List.take_length] at m3
        have f0 := nlG_f (z := 3) (b := tb) hTz
        rw [f0] at hmr
        have hcl : cs.length = k := by rw [hRu.ln, hkl]
        have hm1' : H.map 1 = some ⟨[nlG 1 ob k], true⟩ := by rw [hfr 1 (by omega) (by omega), hm1]
        have hm0' : H.map 0 = some ⟨[.val (.slice none 0 0)], true⟩ := by rw [hfr 0 (by omega) (by omega), hm0]
        by_cases hkz : k = 0
        · have e0 := nlG_t (z := 1) (b := ob) hkz
          rw [e0] at hm1'
          have hcs0 : cs = [] := List.length_eq_zero_iff.1 (by omega)
          have e2 : ∀ b, nlG 1 b (k + 1) = .own b 0 1 1 1 false := fun b => by rw [hkz]; rfl
          simp (disch := omega) only [Tryz.ntmps78, Tryz.results78, go_sem, rst, hQl, hmr, hm1', hset_map, hpush_map, hset_nb, hpush_nb]
          refine ⟨(i + 1, H.nb + 1, cs ++ [nlG 3 tb T.length], fun i => if i < (R.take k).length then nm i else tb, _), ⟨hlt, ?_, ?_, ?_, ?_, ?_⟩, by show P.length - (i + 1) < P.length - i; omega, Wk.of (by simp only [go_sem, ↓List.forall_mem_cons, List.not_mem_nil, false_implies, implies_true, and_true, true_and, and_self, ri_eq, Int.natCast_add, Int.cast_ofNat_Int, rst]; try simp) rfl⟩
          · simp only [hhalf2]
            rw [← hsnR]
            refine hRu.snoc (by omega) ?_ (fun _ => ⟨?_, by omega, ?_, by omega⟩) (fun b b1 b2 b3 => ?_) ?_ ⟨by omega, ?_⟩
            · rw [f0, hcs0]
              simp (disch := omega) only [hset_map, hpush_map, hset_nb, hpush_nb, if_pos, if_neg, ↓reduceIte]
              rfl
            · simp (disch := omega) only [hset_map, hpush_map, hset_nb, hpush_nb, if_pos, if_neg, ↓reduceIte]
              exact m3
            · simp only [hset_nb, hpush_nb]; omega
            · simp (disch := omega) only [hset_map, hpush_map, hset_nb, hpush_nb, if_pos, if_neg, ↓reduceIte]
              exact hfr b b2 (by omega)
            · simp only [hset_nb, hpush_nb]; omega
            · simp only [hset_nb, hpush_nb]; omega
          · simp only
            simp (disch := omega) only [hset_map, hpush_map, hset_nb, hpush_nb, if_pos, if_neg, ↓reduceIte]
            exact hm0'
          · simp only [hhalf2, e2]
            simp (disch := omega) only [hset_map, hpush_map, hset_nb, hpush_nb, if_pos, if_neg, ↓reduceIte]
          · simp only
            simp (disch := omega) only [hset_map, hpush_map, hset_nb, hpush_nb, if_pos, if_neg, ↓reduceIte]
          · simp only [hset_nb, hpush_nb]; omega
        · have e0 := nlG_f (z := 1) (b := ob) hkz
          rw [e0] at hm1'
          obtain ⟨o1, o2⟩ := hRu.lo1 (by omega)
          have hmo : H.map ob = some ⟨cs, false⟩ := by rw [hfr ob o2 (by omega), hRu.o (by omega)]
          have htk : cs.take k = cs := List.take_of_length_le (by omega)
          have e2 : ∀ b, nlG 1 b (k + 1) = .own b 0 (k + 1) (k + 1) 1 false := fun b => nlG_s
          simp (disch := omega) only [Tryz.ntmps78, Tryz.results78, go_sem, rst, hQl, hmr, hm1', hmo, hcl, htk, hset_map, hpush_map, hset_nb, hpush_nb]
          refine ⟨(i + 1, H.nb + 1, cs ++ [nlG 3 tb T.length], fun i => if i < (R.take k).length then nm i else tb, _), ⟨hlt, ?_, ?_, ?_, ?_, ?_⟩, by show P.length - (i + 1) < P.length - i; omega, Wk.of (by simp only [go_sem, ↓List.forall_mem_cons, List.not_mem_nil, false_implies, implies_true, and_true, true_and, and_self, ri_eq, Int.natCast_add, Int.cast_ofNat_Int, rst]; try simp) rfl⟩
          · simp only [hhalf2]
            rw [← hsnR]
            refine hRu.snoc (by omega) ?_ (fun _ => ⟨?_, by omega, ?_, by omega⟩) (fun b b1 b2 b3 => ?_) ?_ ⟨by omega, ?_⟩
            · rw [f0]
              simp (disch := omega) only [hset_map, hpush_map, hset_nb, hpush_nb, if_pos, if_neg, ↓reduceIte]
            · simp (disch := omega) only [hset_map, hpush_map, hset_nb, hpush_nb, if_pos, if_neg, ↓reduceIte]
              exact m3
            · simp only [hset_nb, hpush_nb]; omega
            · have := b3 (by omega)
              simp (disch := omega) only [hset_map, hpush_map, hset_nb, hpush_nb, if_pos, if_neg, ↓reduceIte]
              exact hfr b b2 (by omega)
            · simp only [hset_nb, hpush_nb]; omega
            · simp only [hset_nb, hpush_nb]; omega
          · simp only
            simp (disch := omega) only [hset_map, hpush_map, hset_nb, hpush_nb, if_pos, if_neg, ↓reduceIte]
            exact hm0'
          · simp only [hhalf2, e2]
            simp (disch := omega) only [hset_map, hpush_map, hset_nb, hpush_nb, if_pos, if_neg, ↓reduceIte]
          · simp only
            simp (disch := omega) only [hset_map, hpush_map, hset_nb, hpush_nb, if_pos, if_neg, ↓reduceIte]
          · simp only [hset_nb, hpush_nb]; omega
  · obtain rfl : i = P.length := by omega
    have hhalf : (P.length + 1) / 2 = R.length := by omega
    rw [hhalf] at hRu hm1
    rw [List.take_length] at hRu
    have e0 := nlG_f (z := 1) (b := ob) (by omega : R.length ≠ 0)
    have hview := hRu.view (f := 0)
    have hfin := fin_ruF (u := true) (hRu.fr (H' := H0.set 0 (some ⟨[.own ob 0 R.length R.length 1 false], true⟩)) (by rw [hset_nb]; exact Nat.le_refl _) (fun b b1 b2 => by rw [hset_map, if_neg (by omega)]))
    rw [e0] at hm1 hview hfin
    simp (disch := omega) only [Tryz.ntmps78, Tryz.results78, go_sem, rst, ht0, hm1, hm0, hset_map, hpush_map, hset_nb, hpush_nb]
    refine wF.callV 3 (viewL_cons_of (view_agg (viewL_cons_of hview viewL_nil_of)) viewL_nil_of) ?_
    simp (disch := omega) only [Tryz.ntmps78, Tryz.results78, go_sem, hrefl, Bool.not_true, hm1, hm0, hset_map, hpush_map, hset_nb, hpush_nb]
    exact hfin
end Go.Sh
