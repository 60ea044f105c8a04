/-
  Texts put together: CT4, NL1, FM2, PM3, EParseMatrix, TB3. What each proves stands at its own head, with its conditions.
-/
import Derived.Test.YtkmckbjgffaieaaDoorZParseMatrix4
import Derived.Test.YtkmckbjgffaieaaDoorRows
import Derived.LaidMore
import Derived.Lib.LaidU8

/-
  ParsePartition of the program.
-/
namespace Go.Sh
set_option linter.unusedSimpArgs false
set_option linter.unusedVariables false
open Go Go.Proofs

theorem iput_app {n : Nat} {i : Int} : ∀ (a b : List UInt8) (l : List Int), iput n i (a ++ b) l = (iput n i a l).bind (iput n i b)
  | [], b, l => rfl
  | c :: a, b, l => by
    rw [List.cons_append, iput, iput]
    split
    · exact iput_app a b _
    · rfl
theorem ipc_app {n : Nat} : ∀ (qs rs : List (List UInt8)) (i : Int) (l : List Int), ipc n i (qs ++ rs) l = (ipc n i qs l).bind (fun l1 => ipc n (i + qs.length) rs l1)
  | [], rs, i, l => by simp [ipc]
  | q :: qs, rs, i, l => by
    rw [List.cons_append, ipc, ipc]
    cases iput n i q l with
    | none => rfl
    | some l1 =>
      simp only
      rw [ipc_app qs rs (i + 1) l1]
      congr 1
      funext l2
      congr 1
      rw [List.length_cons]; omega
theorem iput_len {n : Nat} {i : Int} : ∀ {a : List UInt8} {l l' : List Int}, iput n i a l = some l' → l'.length = l.length
  | [], l, l', h => by simp [iput] at h; rw [h]
  | c :: a, l, l', h => by
    rw [iput] at h
    split at h
    · rw [iput_len h, List.length_set]
    · cases h
theorem getD_take_succ {q : List UInt8} {j : Nat} (h : j < q.length) : q.take (j + 1) = q.take j ++ [q.getD j 0] := by
  rw [List.take_add_one, List.getElem?_eq_getElem h]; simp [List.getD, h]
theorem take_drop_at {q : List UInt8} {j : Nat} (h : j < q.length) : q = q.take j ++ q.getD j 0 :: q.drop (j + 1) := by
  have h1 : q.drop j = q.getD j 0 :: q.drop (j + 1) := by rw [List.drop_eq_getElem_cons h]; congr 1; simp [List.getD, h]
  rw [← h1, List.take_append_drop]
theorem takeS_succ {q : List (List UInt8)} {j : Nat} (h : j < q.length) : q.take (j + 1) = q.take j ++ [q.getD j []] := by
  rw [List.take_add_one, List.getElem?_eq_getElem h]; simp [List.getD, h]
theorem takeS_drop {q : List (List UInt8)} {j : Nat} (h : j < q.length) : q = q.take j ++ q.getD j [] :: q.drop (j + 1) := by
  have h1 : q.drop j = q.getD j [] :: q.drop (j + 1) := by rw [List.drop_eq_getElem_cons h]; congr 1; simp [List.getD, h]
  rw [← h1, List.take_append_drop]
theorem fin_val2 {R : SV → Heap → Prop} {a b : Value} {H : Heap} (h : R (.tup [.val a, .val b]) ⟨fun _ => none, H.nb⟩) : Fin R (.tup [.val a, .val b]) H :=
  ⟨⟨fun _ => none, H.nb⟩, ⟨rfl, fun _ => .inl rfl⟩, by simp [noRow, noRowL], fun b blk hb => by simp at hb, h⟩
def IPR (s : List UInt8) (r : SV) (H : Heap) : Prop := (∃ l, pp s = (l, true) ∧ ∃ r0, r = .tup [r0, .val (.bool true)] ∧ FlatRes l.length 1 (ints l) r0 H) ∨ (pp s = ([], false) ∧ r = .tup [.val (.slice none 0 0), .val (.bool false)])
theorem ipr_f {s : List UInt8} {H : Heap} (h : pp s = ([], false)) : Fin (IPR s) (.tup [.val (.slice none 0 0), .val (.bool false)]) H := fin_val2 (.inr ⟨h, rfl⟩)
theorem ipr_t {s : List UInt8} {l : List Int} {b n cap : Nat} {ex e2 : Bool} {H : Heap} (h : pp s = (l, true)) (hn : n = l.length) (hb : H.map b = some ⟨ints l, e2⟩) : Fin (IPR s) (.tup [.own b 0 n cap 1 ex, .val (.bool true)]) H := by
  obtain ⟨H2, h1, h2, h3, r0, h4, h5⟩ := pp_end (cap := cap) (ex := ex) h hn hb
  refine ⟨H2, h1, h2, h3, .inl ⟨l, h, r0, ?_, ?_⟩⟩
  · rw [h4, h]
  · rw [h] at h5; exact h5
/-- The list behind k pieces. -/
def ipAt (s : List UInt8) (k : Nat) (l : List Int) : Prop := ipc (s.length - s.count 124) 0 ((cutL 124 s).take k) (List.replicate (s.length - s.count 124) 0) = some l ∧ l.length = s.length - s.count 124
def ipIn (s : List UInt8) (k j : Nat) (l : List Int) : Prop := ∃ l0, ipAt s k l0 ∧ iput (s.length - s.count 124) k (((cutL 124 s).getD k []).take j) l0 = some l ∧ l.length = s.length - s.count 124
theorem ipIn.zero {s : List UInt8} {k : Nat} {l : List Int} (h : ipAt s k l) : ipIn s k 0 l := ⟨l, h, by rw [List.take_zero]; rfl, h.2⟩
theorem ipIn.succ {s : List UInt8} {k j : Nat} {l : List Int} (h : ipIn s k j l) (hj : j < ((cutL 124 s).getD k []).length) (hx : 0 ≤ ((((cutL 124 s).getD k []).getD j 0).toNat : Int) - 48 ∧ ((((cutL 124 s).getD k []).getD j 0).toNat : Int) - 48 ≤ ((s.length - s.count 124 : Nat) : Int) - 1) :
    ipIn s k (j + 1) (l.set ((((cutL 124 s).getD k []).getD j 0).toNat - 48) k) := by
  obtain ⟨l0, h1, h2, h3⟩ := h
  refine ⟨l0, h1, ?_, by rw [List.length_set]; exact h3⟩
  rw [getD_take_succ hj, iput_app, h2]
  show iput _ _ [_] l = _
  rw [iput, if_pos hx]; rfl
theorem ipIn.fail {s : List UInt8} {k j : Nat} {l : List Int} (h : ipIn s k j l) (hk : k < (cutL 124 s).length) (h16 : s.length ≤ 16) (hj : j < ((cutL 124 s).getD k []).length) (hx : ¬ (0 ≤ ((((cutL 124 s).getD k []).getD j 0).toNat : Int) - 48 ∧ ((((cutL 124 s).getD k []).getD j 0).toNat : Int) - 48 ≤ ((s.length - s.count 124 : Nat) : Int) - 1)) : pp s = ([], false) := by
  refine pp_in ?_
  obtain ⟨l0, h1, h2, h3⟩ := h
  have e1 : iput (s.length - s.count 124) k ((cutL 124 s).getD k []) l0 = none := by
    conv => lhs; rw [take_drop_at hj]
    rw [iput_app, h2]
    show iput _ _ (_ :: _) l = _
    rw [iput, if_neg hx]
  rw [idec, if_neg (by omega)]
  conv => lhs; rw [takeS_drop hk]
  rw [ipc_app, h1.1]
  show ipc _ _ (_ :: _) l0 = _
  have e2 : (0 : Int) + (((cutL 124 s).take k).length : Int) = k := by rw [List.length_take]; omega
  rw [e2, ipc, e1]
theorem ipIn.next {s : List UInt8} {k : Nat} {l : List Int} (h : ipIn s k ((cutL 124 s).getD k []).length l) (hk : k < (cutL 124 s).length) : ipAt s (k + 1) l := by
  obtain ⟨l0, h1, h2, h3⟩ := h
  rw [List.take_length] at h2
  refine ⟨?_, h3⟩
  rw [takeS_succ hk, ipc_app, h1.1]
  show ipc _ _ [_] l0 = _
  have e2 : (0 : Int) + (((cutL 124 s).take k).length : Int) = k := by rw [List.length_take]; omega
  rw [e2, ipc, h2]; rfl
theorem ipAt.all {s : List UInt8} {l : List Int} (h : ipAt s (cutL 124 s).length l) (h16 : s.length ≤ 16) : idec s = some l := by
  have h1 := h.1
  rw [List.take_length] at h1
  rw [idec, if_neg (by omega), h1]

set_option maxHeartbeats 8000000 in
theorem Tryd.implPP_f (s : List UInt8) (hs : s.length ≤ 1048576) : FCall Tryd.prog 25 [str s] (IPR s) := by
  have wc := Tryd.count_ok s 124
  have ws := Tryd.split_ok s 124 hs
  have hcl := cutL_len 124 s
  have hcc : s.count 124 ≤ s.length := List.count_le_length
  refine FCall.of_body Tryd.func25 rfl (by kernel_rfl) (by simp [Tryd.ntmps25]) ?_
  refine SW_of_vc Tryd.mixed _ _ _ (by kernel_rfl) ?_
  by_cases h16 : 16 < s.length
  · have hpp : pp s = ([], false) := pp_in (by rw [idec, if_pos h16])
    simp (disch := omega) only [Tryd.ntmps25, Tryd.results25, go_sem]
    exact ipr_f hpp
  have h16 : s.length ≤ 16 := by omega
  simp (disch := omega) only [Tryd.ntmps25, Tryd.results25, go_sem]
  refine wc.callV 0 (viewL_cons_of view_str (viewL_cons_of view_str viewL_nil_of)) ?_
  have hsub : ((s.length : Int) - (s.count 124 : Int)) = ((s.length - s.count 124 : Nat) : Int) := by omega
  have hz : ipAt s 0 (List.replicate (s.length - s.count 124) 0) := ⟨by rw [List.take_zero]; rfl, by simp⟩
  have hn8 : s.length - s.count 124 ≤ 16 := by omega
  have step := fun k j l (h : ipIn s k j l) hj hx => h.succ hj hx
  have fail := fun k j l (h : ipIn s k j l) hk hj hx => h.fail hk h16 hj hx
  generalize hN : s.length - s.count 124 = N at *
  simp (disch := omega) only [Tryd.ntmps25, Tryd.results25, go_sem, hsub]
  refine ws.callV 0 (viewL_cons_of view_str (viewL_cons_of view_str viewL_nil_of)) ?_
  simp (disch := omega) only [Tryd.ntmps25, Tryd.results25, go_sem, rst]
  refine LoopW.loop (fun p : Nat × List Int => ⟨ofL [(0, str s), (4, .own 0 0 N N 1 true), (19, rst (cutL 124 s)), (20, .val (.int .i64 (cutL 124 s).length)), (21, .val (.int .i64 p.1))], hp [(0, ⟨ints p.2, true⟩)] 1⟩)
    (fun p => p.1 ≤ (cutL 124 s).length ∧ ipAt s p.1 p.2) (fun p => (cutL 124 s).length - p.1) (0, List.replicate N 0) ⟨by simp, hz⟩ (Wk.of (by simp only [go_sem, ↓List.forall_mem_cons, List.not_mem_nil, false_implies, implies_true, and_true, true_and, and_self, ri_eq, Int.natCast_add, Int.cast_ofNat_Int, rst]; try simp) rfl) ?_
  rintro ⟨k, l⟩ ⟨hk, hl⟩
  simp only at hk hl
  refine SW_of_vc Tryd.mixed _ _ _ (by kernel_rfl) ?_
  by_cases hlt : k < (cutL 124 s).length
  · have hg := strs_get hlt
    simp (disch := omega) only [Tryd.ntmps25, Tryd.results25, go_sem, rst, hg]
    have hql : ((cutL 124 s).getD k []).length ≤ s.length := cutL_part 124 s _ (by simp [List.getD, hlt])
    have stepk := step k
    have failk := fail k
    have nextk := fun l (h : ipIn s k ((cutL 124 s).getD k []).length l) => h.next hlt
    have zk := ipIn.zero hl
    generalize (cutL 124 s).getD k [] = q at *
    refine LoopW.loop (fun p : Nat × List Int => ⟨ofL [(0, str s), (4, .own 0 0 N N 1 true), (19, rst (cutL 124 s)), (20, .val (.int .i64 (cutL 124 s).length)), (21, .val (.int .i64 k)), (5, .val (.int .i64 k)), (6, str q), (27, .val (.int .i64 q.length)), (28, .val (.int .i64 p.1))], hp [(0, ⟨ints p.2, true⟩)] 1⟩)
      (fun p => p.1 ≤ q.length ∧ ipIn s k p.1 p.2) (fun p => q.length - p.1) (0, l) ⟨by simp, zk⟩ (Wk.of (by simp only [go_sem, ↓List.forall_mem_cons, List.not_mem_nil, false_implies, implies_true, and_true, true_and, and_self, ri_eq, Int.natCast_add, Int.cast_ofNat_Int, rst]; try simp) rfl) ?_
    rintro ⟨j, l'⟩ ⟨hj, hl'⟩
    simp only at hj hl'
    have hll : l'.length = N := by obtain ⟨_, _, _, h3⟩ := hl'; rw [h3, hN]
    refine SW_of_vc Tryd.mixed _ _ _ (by kernel_rfl) ?_
    by_cases hjl : j < q.length
    · have hix := sb_ix hjl
      have hc8 : (q.getD j 0).toNat < 256 := UInt8.toNat_lt _
      have st := stepk j l' hl' hjl
      have fl := failk j l' hl' hlt hjl
      generalize q.getD j 0 = c at *
      have hin := Tryd.isItem_ok ((c.toNat : Int) - 48) (N : Int) (by omega) (by omega)
      by_cases hx : 0 ≤ (c.toNat : Int) - 48 ∧ (c.toNat : Int) - 48 ≤ (N : Int) - 1
      · have e : inR ((c.toNat : Int) - 48) 0 ((N : Int) - 1) = true := inR_tt hx.1 hx.2
        rw [e] at hin
        have st := st hx
        have hn : ((c.toNat : Int) - 48).toNat = c.toNat - 48 := by omega
        simp (disch := omega) only [Tryd.ntmps25, Tryd.results25, go_sem, rst, hix]
        refine hin.callV 0 (viewL_cons_of (view_int) (viewL_cons_of (view_int) viewL_nil_of)) ?_
        simp (disch := omega) only [Tryd.ntmps25, Tryd.results25, go_sem, rst, hn]
        exact ⟨(j + 1, l'.set (c.toNat - 48) k), ⟨hjl, st⟩, by simp only; omega, Wk.of (by simp only [go_sem, ↓List.forall_mem_cons, List.not_mem_nil, false_implies, implies_true, and_true, true_and, and_self, ri_eq, Int.natCast_add, Int.cast_ofNat_Int, rst]; try simp) rfl⟩
      · have e : inR ((c.toNat : Int) - 48) 0 ((N : Int) - 1) = false := by
          cases h : inR ((c.toNat : Int) - 48) 0 ((N : Int) - 1) with
          | false => rfl
          | true => exact absurd (inR_of h) hx
        rw [e] at hin
        have hpp := fl hx
        simp (disch := omega) only [Tryd.ntmps25, Tryd.results25, go_sem, rst, hix]
        refine hin.callV 0 (viewL_cons_of (view_int) (viewL_cons_of (view_int) viewL_nil_of)) ?_
        simp (disch := omega) only [Tryd.ntmps25, Tryd.results25, go_sem, rst]
        exact ipr_f hpp
    · obtain rfl : j = q.length := by omega
      have hnext := nextk l' hl'
      simp (disch := omega) only [Tryd.ntmps25, Tryd.results25, go_sem, rst]
      exact ⟨(k + 1, l'), ⟨hlt, hnext⟩, by simp only; omega, Wk.of (by simp only [go_sem, ↓List.forall_mem_cons, List.not_mem_nil, false_implies, implies_true, and_true, true_and, and_self, ri_eq, Int.natCast_add, Int.cast_ofNat_Int, rst]; try simp) rfl⟩
  · obtain rfl : k = (cutL 124 s).length := by omega
    have hid := hl.all h16
    have hll : l.length = N := by rw [hl.2, hN]
    have wF := Tryd.implFP_ok l (by omega)
    by_cases hs0 : s = []
    · have hpp : pp s = ([], false) := pp_f fun h => h.1 hs0
      have hs1 : (s == ([] : List UInt8)) = true := by rw [hs0]; rfl
      simp (disch := omega) only [Tryd.ntmps25, Tryd.results25, go_sem, rst, hs1]
      exact ipr_f hpp
    have hs1 : (s == ([] : List UInt8)) = false := by rw [beq_eq_false_iff_ne]; exact hs0
    simp (disch := omega) only [Tryd.ntmps25, Tryd.results25, go_sem, rst, hs1]
    refine wF.callV 2 (viewL_cons_of (view_own (L := l) (e2 := true) (by first | rfl | (simp (disch := omega) only [hx_map, hp_map, xmap_blk, hmap_cons, xmap_skipI, xmap_nil, if_pos, if_neg, ↓reduceIte]; try rfl)) hll.symm) viewL_nil_of) ?_
    by_cases hf : fmtP l = s
    · have hpp : pp s = (l, true) := pp_t hs0 hf
      have hf1 : (fmtP l == s) = true := by rw [hf]; exact beq_self_eq_true s
      simp (disch := omega) only [Tryd.ntmps25, Tryd.results25, go_sem, rst, hf1]
      exact ipr_t (e2 := true) hpp hll.symm (by first | rfl | (simp (disch := omega) only [hx_map, hp_map, xmap_blk, hmap_cons, xmap_skipI, xmap_nil, if_pos, if_neg, ↓reduceIte]; try rfl))
    · have hpp : pp s = ([], false) := pp_is hid hf
      have hf1 : (fmtP l == s) = false := by rw [beq_eq_false_iff_ne]; exact hf
      simp (disch := omega) only [Tryd.ntmps25, Tryd.results25, go_sem, rst, hf1]
      exact ipr_f hpp
theorem Tryd.implPP_t (s : List UInt8) (hs : s.length ≤ 1048576) {l : List Int} (h : pp s = (l, true)) : FCall Tryd.prog 25 [str s] (fun r H => r = .tup [.own 0 0 l.length l.length 1 false, .val (.bool true)] ∧ H = Heap.one ⟨ints l, false⟩) :=
  ((Tryd.implPP_f s hs).mono (R' := fun r H => ∃ r0, r = .tup [r0, .val (.bool true)] ∧ FlatRes l.length 1 (ints l) r0 H) (fun r H hr => by
    rcases hr with ⟨l', h1, r0, h2, h3⟩ | ⟨h1, _⟩
    · rw [h] at h1
      obtain rfl : l = l' := congrArg Prod.fst h1
      exact ⟨r0, h2, h3⟩
    · rw [h] at h1; cases h1)).oneT
theorem Tryd.implPP_n (s : List UInt8) (hs : s.length ≤ 1048576) (h : pp s = ([], false)) : FCall Tryd.prog 25 [str s] (fun r _ => r = .tup ([Value.slice none 0 0, Value.bool false].map .val)) :=
  (Tryd.implPP_f s hs).mono (fun r H hr => by
    rcases hr with ⟨l', h1, _⟩ | ⟨h1, h2⟩
    · rw [h] at h1; cases h1
    · exact h2)
theorem pp_le (s : List UInt8) : (pp s).1.length ≤ 8 := by
  rw [pp]; split
  · rename_i h
    have := isPart_len (fmtP_part (L := sdec s) (by rw [h.2]; exact h.1))
    exact this.2
  · simp
theorem pp_cases (s : List UInt8) : (∃ l, pp s = (l, true)) ∨ pp s = ([], false) := by
  rw [pp]; split
  · exact .inl ⟨_, rfl⟩
  · exact .inr rfl
end Go.Sh

/-
  A slice of ints that is nil as long as it is empty.
-/
namespace Go.Sh
set_option linter.unusedSimpArgs false
set_option linter.unusedVariables false
open Go Go.Proofs

/-- A slice of ints that is nil as long as it is empty. -/
def nlI (b : Nat) (T : List Int) : SV := if T.length = 0 then .val (.slice none 0 0) else .own b 0 T.length T.length 1 false
def nlH (b : Nat) (T : List Int) : List (Nat × Blk) := if T.length = 0 then [] else [(b, ⟨ints T, false⟩)]
theorem nlI_f {b : Nat} {T : List Int} (h : T.length ≠ 0) : nlI b T = .own b 0 T.length T.length 1 false := if_neg h
theorem nlH_f {b : Nat} {T : List Int} (h : T.length ≠ 0) : nlH b T = [(b, ⟨ints T, false⟩)] := if_neg h
theorem nlI_t {b : Nat} {T : List Int} (h : T.length = 0) : nlI b T = .val (.slice none 0 0) := if_pos h
theorem nlH_t {b : Nat} {T : List Int} (h : T.length = 0) : nlH b T = [] := if_pos h
theorem nlH_in {b : Nat} {T : List Int} {H : Heap} (h : T.length ≠ 0 → H.map b = some ⟨ints T, false⟩) : ∀ q ∈ nlH b T, H.map q.1 = some q.2 := by
  intro q hq
  unfold nlH at hq
  split at hq
  · simp at hq
  · rename_i h0
    simp at hq; subst hq
    exact h h0
theorem nlH_map {b : Nat} {T : List Int} (h : T.length ≠ 0) : hmap (nlH b T) b = some ⟨ints T, false⟩ := by rw [nlH_f h, hmap_cons, if_pos rfl]

theorem nlI_nil (b : Nat) : nlI b [] = .val (.slice none 0 0) := rfl
theorem delB_nlH {b x : Nat} {T : List Int} (h : T.length ≠ 0 → b ≠ x) : delB (nlH b T) x = nlH b T := by
  by_cases h0 : T.length = 0
  · rw [nlH_t h0]; rfl
  · rw [nlH_f h0]; have := h h0; simp [delB, this]
end Go.Sh

/-
  FormatMatrix of the program; the law walked.
-/
namespace Go.Sh
set_option linter.unusedSimpArgs false
set_option linter.unusedVariables false
open Go Go.Proofs

set_option maxHeartbeats 4000000 in
theorem Tryd.implFM_ok (M : List (List Int)) (hM : M.length ≤ 1048576) (hR : ∀ i, i < M.length → (mrow M i).length ≤ 1048576) : PCall Tryd.prog 22 [rr M] (str (fmtM M)) := by
  have w := Tryd.implIsWM_ok M hM hR
  refine FCall.pcall (R := fun r _ => r = str (fmtM M)) ?_ 0 (by rintro r H rfl; exact view_str)
  refine FCall.of_body Tryd.func22 rfl (by kernel_rfl) (by simp [Tryd.ntmps22]) ?_
  refine SW_of_vc Tryd.mixed _ _ _ (by kernel_rfl) ?_
  rcases isWM_cases M with ⟨hW, he⟩ | he
  case inr =>
    rw [he] at w
    simp (disch := omega) only [Tryd.ntmps22, Tryd.results22, go_sem, rr_eq]
    refine w.callV 0 (viewL_cons_of (view_row) viewL_nil_of) ?_
    simp (disch := omega) only [Tryd.ntmps22, Tryd.results22, go_sem, rr_eq]
    exact Fin.val (by rw [fmtM, he]; rfl)
  rw [he] at w
  have hl8 := hW.1
  obtain ⟨a1, a2⟩ := up_it hW M.length (Nat.le_refl _)
  have wJ : PCall Tryd.prog 53 [ri (up M M.length), str [32]] (str (txt (up M M.length))) := Tryd.joinInts_ok (up M M.length) [32] (by omega) (fun i hi => by
    have := a1 ((up M M.length).getD i 0) (by simp [hi])
    exact Tryd.implFI_ok _ (by omega) (by omega)) (by
    have := txt_le a1
    show (txt (up M M.length)).length ≤ _
    omega)
  have hup0 : (up M 0).length = 1 := rfl
  simp (disch := omega) only [Tryd.ntmps22, Tryd.results22, go_sem, rr_eq]
  refine w.callV 0 (viewL_cons_of (view_row) viewL_nil_of) ?_
  simp (disch := omega) only [Tryd.ntmps22, Tryd.results22, go_sem, rr_eq]
  refine LoopW.loop (fun p : Nat × Nat × Nat => ⟨ofL [(3, .own p.2.1 0 (up M p.1).length (up M p.1).length 1 false), (12, rr M), (13, .val (.int .i64 M.length)), (14, .val (.int .i64 p.1))], hx [.blk p.2.1 ⟨ints (up M p.1), false⟩] p.2.2⟩)
    (fun p => p.1 ≤ M.length ∧ p.2.1 < p.2.2) (fun p => M.length - p.1) (0, 0, 1) ⟨by simp, by simp⟩ (Wk.ofX (by simp only [go_sem, ↓List.forall_mem_cons, List.not_mem_nil, false_implies, implies_true, and_true, true_and, and_self, ri_eq, Int.natCast_add, Int.cast_ofNat_Int, rr_eq, hup0]; try simp) (by simp [EntIn, hp, hmap, up, ints]) (by simp [hp])) ?_
  rintro ⟨i, ob, nb⟩ ⟨hi, hob⟩
  simp only at hi hob
  refine SW_of_vc Tryd.mixed _ _ _ (by kernel_rfl) ?_
  have il := ints_length (up M i)
  have it : (ints (up M i)).take (up M i).length = ints (up M i) := List.take_of_length_le (by omega)
  obtain ⟨u1, u2⟩ := up_it hW i hi
  by_cases hlt : i < M.length
  · have hg := rows_get hlt
    have hrl := hW.2.1 i hlt
    rw [hrl] at hg
    have hup : up M (i + 1) = up M i ++ (mrow M i).drop (i + 1) := rfl
    have hap : ints (up M i) ++ ints ((mrow M i).drop (i + 1)) = ints (up M (i + 1)) := by rw [hup]; simp [ints]
    have hdl : ((mrow M i).drop (i + 1)).length = M.length - (i + 1) := by rw [List.length_drop, hrl]
    have hul : (up M (i + 1)).length = (up M i).length + (M.length - (i + 1)) := by rw [hup, List.length_append, hdl]
    have hid := ints_drop (mrow M i) (i + 1)
    have hil : (ints ((mrow M i).drop (i + 1))).length = M.length - (i + 1) := by rw [ints_length, hdl]
    have hit2 : (ints ((mrow M i).drop (i + 1))).take (M.length - (i + 1)) = ints ((mrow M i).drop (i + 1)) := List.take_of_length_le (by omega)
    have t1 : ((i : Int) + 1).toNat = i + 1 := by omega
    by_cases hlast : i + 1 = M.length
    · have hz : M.length - (i + 1) = 0 := by omega
      have hnil : (mrow M i).drop (i + 1) = [] := List.drop_eq_nil_of_le (by omega)
      have hsame : up M (i + 1) = up M i := by rw [hup, hnil, List.append_nil]
      rw [hnil] at hid hap hil hit2
      simp (disch := omega) only [Tryd.ntmps22, Tryd.results22, go_sem, rr_eq, hg, t1, hid, il, it, hit2, ints_flat, hz]
      exact ⟨(i + 1, ob, nb), ⟨hlt, hob⟩, by simp only; omega, Wk.of (by simp only [go_sem, ↓List.forall_mem_cons, List.not_mem_nil, false_implies, implies_true, and_true, true_and, and_self, ri_eq, Int.natCast_add, Int.cast_ofNat_Int, rr_eq, hsame]; try simp) (by simp only [hsame])⟩
    · simp (disch := omega) only [Tryd.ntmps22, Tryd.results22, go_sem, rr_eq, hg, t1, hid, il, it, hit2, ints_flat, hap]
      refine ⟨(i + 1, nb, nb + 1), ⟨hlt, by simp only; omega⟩, by simp only; omega, ?_⟩
      refine Wk.ofX (by simp only [go_sem, ↓List.forall_mem_cons, List.not_mem_nil, false_implies, implies_true, and_true, true_and, and_self, ri_eq, Int.natCast_add, Int.cast_ofNat_Int, rr_eq, hul]; try simp) ?_ (Nat.le_refl _)
      simp only [List.forall_mem_cons]
      refine ⟨?_, by simp⟩
      simp (disch := omega) only [EntIn, hx_map, xmap_blk, if_pos, if_neg, ↓reduceIte]
  · obtain rfl : i = M.length := by omega
    simp (disch := omega) only [Tryd.ntmps22, Tryd.results22, go_sem, rr_eq]
    refine wJ.callV 2 (viewL_cons_of (view_own (L := up M M.length) (e2 := false) (by first | rfl | (simp (disch := omega) only [hx_map, hp_map, xmap_blk, hmap_cons, xmap_skipI, xmap_nil, if_pos, if_neg, ↓reduceIte]; try rfl)) rfl) (viewL_cons_of view_str viewL_nil_of)) ?_
    simp (disch := omega) only [Tryd.ntmps22, Tryd.results22, go_sem, rr_eq]
    exact Fin.val (by rw [fmtM, he]; rfl)

set_option maxHeartbeats 4000000 in
theorem Tryd.exactFormatMatrix_ok (M : List (List Int)) (hw : (∀ l ∈ M, (∀ n ∈ l, i64R n) ∧ l.length ≤ maxLen) ∧ M.length ≤ maxLen) : PCall Tryd.prog 5 [rr M] (.val (.bool true)) := by
  refine FCall.pcall (R := fun r _ => r = .val (.bool true)) ?_ 0 (by rintro r H rfl; exact view_bool)
  refine FCall.of_body Tryd.func5 rfl (by kernel_rfl) (by simp [Tryd.ntmps5]) ?_
  refine SW_of_vc Tryd.mixed _ _ _ (by kernel_rfl) ?_
  obtain ⟨m1, m2⟩ := mrow_max hw
  have hs := Tryd.szIntSS_ok M 1048576 m1 m2 (by omega) (by omega)
  have hnn := msum_nonneg M M.length
  by_cases h : (1048576 : Int) < M.length + msum M M.length
  · rw [if_pos h] at hs
    simp (disch := omega) only [Tryd.ntmps5, Tryd.results5, go_sem, rr_eq]
    refine hs.callV 0 (viewL_cons_of (view_row) (viewL_cons_of (view_int) viewL_nil_of)) ?_
    simp (disch := omega) only [Tryd.ntmps5, Tryd.results5, go_sem, rr_eq]
    exact Fin.val rfl
  · rw [if_neg h] at hs
    have hM : M.length ≤ 1048576 := by omega
    have hR : ∀ i, i < M.length → (mrow M i).length ≤ 1048576 := fun i hi => by have := mrow_le hi; omega
    have wS := Tryd.specFM_ok M hM hR
    have wI := Tryd.implFM_ok M hM hR
    generalize fmtM M = q at *
    simp (disch := omega) only [Tryd.ntmps5, Tryd.results5, go_sem, rr_eq]
    refine hs.callV 0 (viewL_cons_of (view_row) (viewL_cons_of (view_int) viewL_nil_of)) ?_
    simp (disch := omega) only [Tryd.ntmps5, Tryd.results5, go_sem, rr_eq]
    refine (Tryd.toIntSS_ok M hM hR).callV 0 (viewL_cons_of (view_row) viewL_nil_of) ?_
    simp (disch := omega) only [Tryd.ntmps5, Tryd.results5, go_sem, rr_eq]
    refine wS.callV 0 (viewL_cons_of (view_row) viewL_nil_of) ?_
    simp (disch := omega) only [Tryd.ntmps5, Tryd.results5, go_sem, rr_eq]
    refine (Tryd.toIntSS_ok M hM hR).callV 0 (viewL_cons_of (view_row) viewL_nil_of) ?_
    simp (disch := omega) only [Tryd.ntmps5, Tryd.results5, go_sem, rr_eq]
    refine wI.callV 0 (viewL_cons_of (view_row) viewL_nil_of) ?_
    simp (disch := omega) only [Tryd.ntmps5, Tryd.results5, go_sem, rr_eq, beq_self_eq_true, Bool.not_true]
    refine (Tryd.toIntSS_ok M hM hR).callV 0 (viewL_cons_of (view_row) viewL_nil_of) ?_
    simp (disch := omega) only [Tryd.ntmps5, Tryd.results5, go_sem, rr_eq]
    refine (Tryd.eqIntSS_ok M M hM hM hR hR).callV 0 (viewL_cons_of (view_row) (viewL_cons_of (view_row) viewL_nil_of)) ?_
    simp (disch := omega) only [Tryd.ntmps5, Tryd.results5, go_sem, rr_eq, decide_true]
    exact Fin.val rfl
end Go.Sh

/-
  ParseMatrix: of the program.
-/
namespace Go.Sh
set_option linter.unusedSimpArgs false
set_option linter.unusedVariables false
open Go Go.Proofs

section
variable {P : Program}
theorem FCall.matT {f : FuncId} {args : List SV} {R : List (List SV)} {u : Value} (h : FCall P f args (fun r H => ∃ r0, r = .tup [r0, .val u] ∧ MatRes R r0 H)) :
    FCall P f args (fun r H => r = .tup [.own 0 0 R.length R.length 1 false, .val u] ∧ H = hx [.mat 0 R] (R.length + 1)) := by
  refine ⟨h.1, fun w vs hl ht => (h.2 w vs hl ht).mono ?_⟩
  rintro e w' ⟨v, r, j, H, h1, h2, h3, h4, h5, h6, h7, r0, rfl, h8⟩
  simp only [VRel, LRel] at h4
  obtain ⟨vs, rfl, x, rest, rfl, hx, y, rest', rfl, rfl, rfl⟩ := h4
  obtain ⟨j', r', v', o'⟩ := mat_rel h8 h3 hx
  refine ⟨_, _, j', _, h1, h2, r', ?_, fun k hk => h5 k (o' k hk), by simp [noRow, noRowL], mat_nr h8.vals, rfl, rfl⟩
  simp only [VRel, LRel]
  exact ⟨_, rfl, _, _, rfl, by simpa only [VRel] using v', _, _, rfl, rfl, rfl⟩
theorem FCall.callMatT {f : FuncId} {args args' : List SV} {R : List (List SV)} {u : Value} {H : Heap} {K : SV → Heap → Prop} (h : FCall P f args' (fun r H => r = .tup [.own 0 0 R.length R.length 1 false, .val u] ∧ H = hx [.mat 0 R] (R.length + 1))) (hc : ∀ row ∈ R, row.all isVal = true) (fu : Nat) (hv : viewL H fu args = some args')
    (k : K (.tup [.own H.nb 0 R.length R.length 1 false, .val u]) (H.pushM R)) : @CallX P f args H ⟨K⟩ := by
  refine ⟨h.1, fun j w vs r hl => ((h.callS fu hv).2 j w vs r hl).mono ?_⟩
  rintro e w' ⟨r1, v, j', H', h1, h2, h3, h4, r0, H0, ⟨rfl, rfl⟩, rfl, rfl⟩
  refine ⟨_, v, j', _, h1, h2, h3, h4, ?_⟩
  rw [merge_mat r hc]
  simpa only [shift, shiftL, Nat.zero_add] using k
end
theorem vals_take {P : List (List UInt8)} {k : Nat} {n : Int} (h : k < P.length) (hn : pint (P.getD k []) = some n) : ints (vals (P.take k)) ++ [.val (.int .i64 n)] = ints (vals (P.take (k + 1))) := by
  have e : vals (P.take (k + 1)) = vals (P.take k) ++ [n] := by rw [takeS_succ h, vals, List.map_append, List.map_cons, List.map_nil, hn]; rfl
  rw [e]; simp [ints]
theorem valsT_length {P : List (List UInt8)} {k : Nat} (h : k ≤ P.length) : (vals (P.take k)).length = k := by rw [vals_length, List.length_take]; omega
def PIR (P : List (List UInt8)) (r : SV) (H : Heap) : Prop :=
  ((∀ p ∈ P, ∃ n, pint p = some n) ∧ ∃ r0, r = .tup [r0, .val (.bool true)] ∧ FlatRes P.length 1 (ints (vals P)) r0 H) ∨ ((∃ p ∈ P, pint p = none) ∧ r = .tup [.val (.slice none 0 0), .val (.bool false)])
theorem fin_pirT {P : List (List UInt8)} {b n cap : Nat} {ex e2 : Bool} {H : Heap} (h : ∀ p ∈ P, ∃ n, pint p = some n) (hn : n = P.length) (hb : H.map b = some ⟨ints (vals P), e2⟩) : Fin (PIR P) (.tup [.own b 0 n cap 1 ex, .val (.bool true)]) H := by
  subst hn
  obtain ⟨H2, h1, h2, h3, h4⟩ := fin_ints (n := P.length) (cap := cap) (ex := ex) (vals_length P).symm hb
  exact ⟨H2, h1, by simp [noRow, noRowL], h3, .inl ⟨h, _, rfl, h4⟩⟩
theorem fin_pirF {P : List (List UInt8)} {H : Heap} (h : ∃ p ∈ P, pint p = none) : Fin (PIR P) (.tup [.val (.slice none 0 0), .val (.bool false)]) H := fin_val2 (.inr ⟨h, rfl⟩)
set_option maxHeartbeats 4000000 in
theorem Tryd.parseInts_f (P : List (List UInt8)) (h0 : 0 < P.length) (hP : P.length ≤ 1048577) (hg : ∀ i, i < P.length → (P.getD i []).length ≤ 1048576) : FCall Tryd.prog 82 [rst P] (PIR P) := by
  refine FCall.of_body Tryd.func82 rfl (by kernel_rfl) (by simp [Tryd.ntmps82]) ?_
  refine SW_of_vc Tryd.mixed _ _ _ (by kernel_rfl) ?_
  simp (disch := omega) only [Tryd.ntmps82, Tryd.results82, go_sem, rst]
  refine LoopW.loop (fun p : Nat × Nat × Nat => ⟨ofL [(4, nlI p.2.1 (vals (P.take p.1))), (9, rst P), (10, .val (.int .i64 P.length)), (11, .val (.int .i64 p.1))], hp (nlH p.2.1 (vals (P.take p.1))) p.2.2⟩)
    (fun p => p.1 ≤ P.length ∧ (p.1 ≠ 0 → p.2.1 < p.2.2) ∧ ∀ j, j < p.1 → ∃ n, pint (P.getD j []) = some n) (fun p => P.length - p.1) (0, 0, 0) ⟨by simp, fun h => absurd rfl h, fun j hj => by simp at hj⟩ (Wk.ofH (by simp only [go_sem, ↓List.forall_mem_cons, List.not_mem_nil, false_implies, implies_true, and_true, true_and, and_self, ri_eq, Int.natCast_add, Int.cast_ofNat_Int, rst, List.take_zero, nlI_t (T := vals []) rfl]; try simp) (by simp [nlH, vals]) (by simp [hp])) ?_
  rintro ⟨k, ob, nb⟩ ⟨hk, hob, hall⟩
  simp only at hk hob hall
  have hrl := valsT_length hk
  refine SW_of_vc Tryd.mixed _ _ _ (by kernel_rfl) ?_
  by_cases hlt : k < P.length
  · have hgk := strs_get hlt
    have w := Tryd.implPI_ok (P.getD k []) (hg k hlt)
    have hl2 := valsT_length (P := P) (k := k + 1) hlt
    have e2 : ∀ b, nlI b (vals (P.take (k + 1))) = .own b 0 (k + 1) (k + 1) 1 false := fun b => by rw [nlI_f (by omega), hl2]
    have e3 : ∀ b, nlH b (vals (P.take (k + 1))) = [(b, ⟨ints (vals (P.take (k + 1))), false⟩)] := fun b => nlH_f (by omega)
    cases hp : pint (P.getD k []) with
    | none =>
      have hbad : ∃ p ∈ P, pint p = none := ⟨P.getD k [], by simp [List.getD, hlt], hp⟩
      rw [pIR, hp] at w
      simp (disch := omega) only [Tryd.ntmps82, Tryd.results82, go_sem, rst, hgk]
      refine w.callV 0 (viewL_cons_of view_str viewL_nil_of) ?_
      simp (disch := omega) only [Tryd.ntmps82, Tryd.results82, go_sem, rst, hgk, Option.getD_none, Option.isSome_none]
      exact fin_pirF hbad
    | some n =>
      have hsn := vals_take hlt hp
      have hall2 : ∀ j, j < k + 1 → ∃ n, pint (P.getD j []) = some n := fun j hj => by
        rcases Nat.lt_succ_iff_lt_or_eq.1 hj with h | rfl
        · exact hall j h
        · exact ⟨n, hp⟩
      rw [pIR, hp] at w
      by_cases hz : k = 0
      · have e0 := nlI_t (b := ob) (T := vals (P.take k)) (by omega)
        have h0 := nlH_t (b := ob) (T := vals (P.take k)) (by omega)
        have hsn0 : [SV.val (.int .i64 n)] = ints (vals (P.take (k + 1))) := by rw [← hsn, List.length_eq_zero_iff.1 (by omega : (vals (P.take k)).length = 0)]; rfl
        have e2z : ∀ b, nlI b (vals (P.take (k + 1))) = .own b 0 1 1 1 false := fun b => by
          have hk1 : k + 1 = 1 := by omega
          rw [e2, hk1]
        simp (disch := omega) only [Tryd.ntmps82, Tryd.results82, go_sem, rst, hgk, e0, h0]
        refine w.callV 0 (viewL_cons_of view_str viewL_nil_of) ?_
        simp (disch := omega) only [Tryd.ntmps82, Tryd.results82, go_sem, rst, hgk, e0, h0, Option.getD_some, Option.isSome_some]
        refine ⟨(k + 1, nb + 1, nb + 1 + 1), ⟨hlt, fun _ => by show nb + 1 < nb + 1 + 1; omega, hall2⟩, by show P.length - (k + 1) < P.length - k; omega, Wk.ofH (by simp only [go_sem, ↓List.forall_mem_cons, List.not_mem_nil, false_implies, implies_true, and_true, true_and, and_self, ri_eq, Int.natCast_add, Int.cast_ofNat_Int, rst, e2z]; try simp) ?_ (Nat.le_refl _)⟩
        show ∀ q ∈ nlH (nb + 1) (vals (P.take (k + 1))), _
        refine nlH_in fun _ => ?_
        rw [← hsn0]; simp (disch := omega) only [hp_map, hmap_cons, if_pos, if_neg, ↓reduceIte]
      · have o2 := hob hz
        have e0 := nlI_f (b := ob) (T := vals (P.take k)) (by omega)
        have h0 := nlH_f (b := ob) (T := vals (P.take k)) (by omega)
        rw [hrl] at e0
        have hil : (ints (vals (P.take k))).length = k := by rw [ints_length, hrl]
        have hit : (ints (vals (P.take k))).take k = ints (vals (P.take k)) := List.take_of_length_le (by omega)
        simp (disch := omega) only [Tryd.ntmps82, Tryd.results82, go_sem, rst, hgk, e0, h0, hil, hit, hsn]
        refine w.callV 0 (viewL_cons_of view_str viewL_nil_of) ?_
        simp (disch := omega) only [Tryd.ntmps82, Tryd.results82, go_sem, rst, hgk, e0, h0, hil, hit, hsn, Option.getD_some, Option.isSome_some]
        refine ⟨(k + 1, nb + 1, nb + 1 + 1), ⟨hlt, fun _ => by show nb + 1 < nb + 1 + 1; omega, hall2⟩, by show P.length - (k + 1) < P.length - k; omega, Wk.ofH (by simp only [go_sem, ↓List.forall_mem_cons, List.not_mem_nil, false_implies, implies_true, and_true, true_and, and_self, ri_eq, Int.natCast_add, Int.cast_ofNat_Int, rst, e2]; try simp) ?_ (Nat.le_refl _)⟩
        show ∀ q ∈ nlH (nb + 1) (vals (P.take (k + 1))), _
        refine nlH_in fun _ => ?_
        simp (disch := omega) only [hp_map, hmap_cons, if_pos, if_neg, ↓reduceIte]
  · obtain rfl : k = P.length := by omega
    have hallp : ∀ p ∈ P, ∃ n, pint p = some n := fun p hp => by
      obtain ⟨j, hj, rfl⟩ := List.getElem_of_mem hp
      obtain ⟨n, hn⟩ := hall j hj
      exact ⟨n, by simpa [List.getD, hj] using hn⟩
    rw [List.take_length] at hrl
    have o2 := hob (by omega)
    have e0 := nlI_f (b := ob) (T := vals P) (by omega)
    have h0 := nlH_f (b := ob) (T := vals P) (by omega)
    rw [hrl] at e0
    simp (disch := omega) only [Tryd.ntmps82, Tryd.results82, go_sem, rst, List.take_length, e0, h0]
    exact fin_pirT (e2 := false) hallp rfl (by first | rfl | (simp (disch := omega) only [hx_map, hp_map, xmap_blk, hmap_cons, xmap_skipI, xmap_nil, if_pos, if_neg, ↓reduceIte]; try rfl))
theorem Tryd.parseInts_t (P : List (List UInt8)) (h0 : 0 < P.length) (hP : P.length ≤ 1048577) (hg : ∀ i, i < P.length → (P.getD i []).length ≤ 1048576) (h : ∀ p ∈ P, ∃ n, pint p = some n) : FCall Tryd.prog 82 [rst P] (fun r H => r = .tup [.own 0 0 P.length P.length 1 false, .val (.bool true)] ∧ H = Heap.one ⟨ints (vals P), false⟩) :=
  ((Tryd.parseInts_f P h0 hP hg).mono (R' := fun r H => ∃ r0, r = .tup [r0, .val (.bool true)] ∧ FlatRes P.length 1 (ints (vals P)) r0 H) (fun r H hr => by
    rcases hr with ⟨_, r0, h2, h3⟩ | ⟨⟨p, hp, hpn⟩, _⟩
    · exact ⟨r0, h2, h3⟩
    · obtain ⟨n, hn⟩ := h p hp
      rw [hpn] at hn; cases hn)).oneT
theorem Tryd.parseInts_n (P : List (List UInt8)) (h0 : 0 < P.length) (hP : P.length ≤ 1048577) (hg : ∀ i, i < P.length → (P.getD i []).length ≤ 1048576) (h : ¬ ∀ p ∈ P, ∃ n, pint p = some n) : FCall Tryd.prog 82 [rst P] (fun r _ => r = .tup ([Value.slice none 0 0, .bool false].map .val)) :=
  (Tryd.parseInts_f P h0 hP hg).mono (fun r H hr => by
    rcases hr with ⟨h1, _⟩ | ⟨_, h2⟩
    · exact absurd h1 h
    · rw [h2]; rfl)
def PMR (s : List UInt8) (r : SV) (H : Heap) : Prop :=
  match pm s with
  | some M => ∃ r0, r = .tup [r0, .val (.bool true)] ∧ MatRes (mi M) r0 H
  | none => r = .tup [.val (.slice none 0 0), .val (.bool false)]
theorem fin_pmT {s : List UInt8} {M : List (List Int)} {b n cap : Nat} {ex : Bool} {H : Heap} (hp : pm s = some M) (h : EntIn H (.mat b (mi M))) (hn : n = M.length) : Fin (PMR s) (.tup [.own b 0 n cap 1 ex, .val (.bool true)]) H := by
  obtain ⟨H2, h1, h2, h3, h4⟩ := fin_mat (n := n) (cap := cap) (ex := ex) h (mi_vals M) (by rw [mi_length, hn])
  exact ⟨H2, h1, by simp [noRow, noRowL], h3, by rw [PMR, hp]; exact ⟨_, rfl, h4⟩⟩
theorem fin_pmF {s : List UInt8} {H : Heap} (hp : pm s = none) : Fin (PMR s) (.tup [.val (.slice none 0 0), .val (.bool false)]) H := fin_val2 (by rw [PMR, hp])
theorem pm_bad2 {s : List UInt8} (h : ¬ ∀ p ∈ cutL 32 s, ∃ n, pint p = some n) : pm s = none := by
  cases hp : pm s with
  | none => rfl
  | some M => exact absurd (pm_all hp) h
set_option maxRecDepth 20000 in
set_option maxHeartbeats 8000000 in
theorem Tryd.implPM_f (s : List UInt8) (hs : s.length ≤ 1048576) : FCall Tryd.prog 47 [str s] (PMR s) := by
  have wc := Tryd.split_ok s 32 hs
  have hpos := cutL_pos 32 s
  have hpart := cutL_part 32 s
  have hb1 := @pm_bad1 s
  have hb2 := @pm_bad2 s
  have heq := @pm_eq s
  have hvl := vals_length (cutL 32 s)
  have hcl := cutL_len 32 s
  have hcc : s.count 32 ≤ s.length := List.count_le_length
  refine FCall.of_body Tryd.func47 rfl (by kernel_rfl) (by simp [Tryd.ntmps47]) ?_
  refine SW_of_vc Tryd.mixed _ _ _ (by kernel_rfl) ?_
  generalize hP : cutL 32 s = P at *
  have hg : ∀ i, i < P.length → (P.getD i []).length ≤ 1048576 := fun i hi => by
    have := hpart (P.getD i []) (by simp [List.getD, hi])
    omega
  by_cases hall : ∀ p ∈ P, ∃ n, pint p = some n
  case neg =>
    have hp := hb2 hall
    have wp := Tryd.parseInts_n P hpos (by omega) hg hall
    simp (disch := omega) only [Tryd.ntmps47, Tryd.results47, go_sem]
    refine wc.callV 0 (viewL_cons_of view_str (viewL_cons_of view_str viewL_nil_of)) ?_
    simp (disch := omega) only [Tryd.ntmps47, Tryd.results47, go_sem, rst]
    refine wp.callTup 0 (viewL_cons_of (view_row) viewL_nil_of) ?_
    simp (disch := omega) only [Tryd.ntmps47, Tryd.results47, go_sem, List.map_cons, List.map_nil]
    exact fin_pmF hp
  have wp := Tryd.parseInts_t P hpos (by omega) hg hall
  have gv := fun i (h : i < P.length) => ints_get (L := vals P) (k := i) (by omega)
  have g0 := gv 0 hpos
  have hil : (ints (vals P)).length = P.length := by rw [ints_length, hvl]
  have wi := Tryd.within_ok ((vals P).getD 0 0) 1 8
  generalize hn0 : (vals P).getD 0 0 = z at *
  by_cases hz : 1 ≤ z ∧ z ≤ 8
  case neg =>
    have hp := hb1 hz
    have e : inR z 1 8 = false := by
      cases h : inR z 1 8 with
      | false => rfl
      | true => exact absurd (inR_of h) hz
    rw [e] at wi
    simp (disch := omega) only [Tryd.ntmps47, Tryd.results47, go_sem]
    refine wc.callV 0 (viewL_cons_of view_str (viewL_cons_of view_str viewL_nil_of)) ?_
    simp (disch := omega) only [Tryd.ntmps47, Tryd.results47, go_sem, rst]
    refine wp.callOneT (ints_vals _) 0 (viewL_cons_of (view_row) viewL_nil_of) ?_
    simp (disch := omega) only [Tryd.ntmps47, Tryd.results47, go_sem, hil, g0]
    refine wi.callDV 0 (viewL_cons_of (view_int) (viewL_cons_of (view_int) (viewL_cons_of (view_int) viewL_nil_of))) ?_
    simp (disch := omega) only [Tryd.ntmps47, Tryd.results47, go_sem, hil, g0]
    exact fin_pmF hp
  obtain ⟨n, rfl⟩ := Int.eq_ofNat_of_zero_le (a := z) (by omega)
  have h1 : 1 ≤ n := by omega
  have h8 : n ≤ 8 := by omega
  have heq := heq rfl h1 h8
  have hq := off_all h1 h8
  have ho1 : off n n ≤ 28 := by
    have : n = 1 ∨ n = 2 ∨ n = 3 ∨ n = 4 ∨ n = 5 ∨ n = 6 ∨ n = 7 ∨ n = 8 := by omega
    rcases this with rfl | rfl | rfl | rfl | rfl | rfl | rfl | rfl <;> decide
  have hlt2 := fun i k (a : i < k) (b : k < n) => pos_lt a b
  generalize hO : off n n = O at *
  have htd : Int.tdiv (2 * (O : Int)) 2 = O := Int.mul_tdiv_cancel_left _ (by decide)
  rw [inR_tt hz.1 hz.2] at wi
  by_cases hlen : P.length = 1 + O
  case neg =>
    have hp : pm s = none := by rw [heq, if_neg (fun h => hlen h.1)]
    simp (disch := omega) only [Tryd.ntmps47, Tryd.results47, go_sem]
    refine wc.callV 0 (viewL_cons_of view_str (viewL_cons_of view_str viewL_nil_of)) ?_
    simp (disch := omega) only [Tryd.ntmps47, Tryd.results47, go_sem, rst]
    refine wp.callOneT (ints_vals _) 0 (viewL_cons_of (view_row) viewL_nil_of) ?_
    simp (disch := omega) only [Tryd.ntmps47, Tryd.results47, go_sem, hil, g0, hq, htd]
    refine wi.callDV 0 (viewL_cons_of (view_int) (viewL_cons_of (view_int) (viewL_cons_of (view_int) viewL_nil_of))) ?_
    simp (disch := omega) only [Tryd.ntmps47, Tryd.results47, go_sem, hil, g0, hq, htd]
    exact fin_pmF hp
  have hpa : ∀ i k, i < k → k < n → pa n i k < P.length := fun i k a b => by have := hlt2 i k a b; rw [pa]; omega
  have hpl : ∀ i k, i < k → k < n → (vals P).getD (pa n i k) 0 = (vals P).tail.getD (pos n i k) 0 := fun i k _ _ => by
    rw [pa, List.getD_eq_getElem?_getD, List.getD_eq_getElem?_getD, List.getElem?_tail, Nat.add_comm]
  generalize hl : (vals P).tail = l at *
  simp (disch := omega) only [Tryd.ntmps47, Tryd.results47, go_sem]
  refine wc.callV 0 (viewL_cons_of view_str (viewL_cons_of view_str viewL_nil_of)) ?_
  simp (disch := omega) only [Tryd.ntmps47, Tryd.results47, go_sem, rst]
  refine wp.callOneT (ints_vals _) 0 (viewL_cons_of (view_row) viewL_nil_of) ?_
  simp (disch := omega) only [Tryd.ntmps47, Tryd.results47, go_sem, hil, g0, hq, htd]
  refine wi.callDV 0 (viewL_cons_of (view_int) (viewL_cons_of (view_int) (viewL_cons_of (view_int) viewL_nil_of))) ?_
  simp (disch := omega) only [Tryd.ntmps47, Tryd.results47, go_sem, hil, g0, hq, htd]
  refine (Tryd.square_one n (by omega)).callMat (mi_vals _) 0 (viewL_cons_of (view_int) viewL_nil_of) ?_
  simp (disch := omega) only [Tryd.ntmps47, Tryd.results47, go_sem, hil, g0, hq, htd, zs_length]
  refine LoopW.loop (fun y : Nat × List (List Int) × Nat => ⟨ofL [(0, str s), (4, .own 0 (pa n y.1 (y.1 + 1)) (P.length - pa n y.1 (y.1 + 1)) (P.length - pa n y.1 (y.1 + 1)) 1 false), (6, .own 1 0 n n 1 false), (46, .val (.int .i64 n)), (47, .val (.int .i64 y.1))], hx [.mat 1 (mi y.2.1), .blk 0 ⟨ints (vals P), false⟩] y.2.2⟩)
    (fun y => y.1 ≤ n ∧ PMs n l y.2.1 y.1 (y.1 + 1) ∧ n + 1 < y.2.2) (fun y => n - y.1) (0, zs n, 1 + n + 1) ⟨by simp, .zero n l, by simp only; omega⟩
    (Wk.ofX (by simp only [go_sem, ↓List.forall_mem_cons, List.not_mem_nil, false_implies, implies_true, and_true, true_and, and_self, ri_eq, Int.natCast_add, Int.cast_ofNat_Int, rst, pa_zero, Bool.or_self]; try simp) (by simp only [List.forall_mem_cons]; exact ⟨.self, by simp (disch := omega) only [EntIn, hx_map, xmap_skipI, xmap_blk, if_pos, ↓reduceIte], by simp⟩) (Nat.le_refl _)) ?_
  rintro ⟨i, X, nb⟩ ⟨hi, hX, hnb⟩
  simp only at hi hX hnb
  have hXl := hX.1.1
  refine SW_of_vc Tryd.mixed _ _ _ (by kernel_rfl) ?_
  by_cases hlt : i < n
  · simp (disch := omega) only [Tryd.ntmps47, Tryd.results47, go_sem]
    refine LoopW.loop (fun y : Nat × List (List Int) × Nat => ⟨ofL [(0, str s), (4, .own 0 (pa n i y.1) (P.length - pa n i y.1) (P.length - pa n i y.1) 1 false), (6, .own 1 0 n n 1 false), (7, .val (.int .i64 i)), (8, .val (.int .i64 y.1)), (46, .val (.int .i64 n)), (47, .val (.int .i64 i))], hx [.mat 1 (mi y.2.1), .blk 0 ⟨ints (vals P), false⟩] y.2.2⟩)
      (fun y => i < y.1 ∧ y.1 ≤ n ∧ PMs n l y.2.1 i y.1 ∧ n + 1 < y.2.2) (fun y => n - y.1) (i + 1, X, nb) ⟨by simp, by show i + 1 ≤ n; omega, hX, hnb⟩
      (Wk.ofX (by simp only [go_sem, ↓List.forall_mem_cons, List.not_mem_nil, false_implies, implies_true, and_true, true_and, and_self, ri_eq, Int.natCast_add, Int.cast_ofNat_Int]; try simp) (by simp only [List.forall_mem_cons]; exact ⟨.self, by simp (disch := omega) only [EntIn, hx_map, xmap_skipI, xmap_blk, if_pos, ↓reduceIte], by simp⟩) (Nat.le_refl _)) ?_
    clear hX hnb hXl
    rintro ⟨j, X, nb⟩ ⟨hij, hj, hX, hnb⟩
    simp only at hij hj hX hnb
    have hXl := hX.1.1
    refine SW_of_vc Tryd.mixed _ _ _ (by kernel_rfl) ?_
    by_cases hltj : j < n
    · have ha := hpa i j hij hltj
      have hsu := pa_succ (n := n) hij
      have ga := gv (pa n i j) ha
      rw [hpl i j hij hltj] at ga
      have hX2 := hX.put hij hltj (x := l.getD (pos n i j) 0) rfl
      generalize l.getD (pos n i j) 0 = v at *
      generalize hag : pa n i j = a at *
      have r1 := hX.1.2 i (by omega)
      have r2 := hX.1.2 j (by omega)
      have l2 : (mset X i j v).length = n := by rw [mset_length, hXl]
      have r3 : (mrow (mset X i j v) j).length = n := by rw [mset_row_length, r2]
      simp (disch := omega) only [Tryd.ntmps47, Tryd.results47, go_sem, hil, ga, outerB_getI, xmap_skipI, xmap_rowI, xset_rowI, xset_skipI, r1, r2, r3, hXl, l2]
      exact ⟨(j + 1, mset (mset X i j v) j i v, nb), ⟨by show i < j + 1; omega, hltj, hX2, hnb⟩, by show n - (j + 1) < n - j; omega, Wk.ofX (by simp only [go_sem, ↓List.forall_mem_cons, List.not_mem_nil, false_implies, implies_true, and_true, true_and, and_self, ri_eq, Int.natCast_add, Int.cast_ofNat_Int, hsu, Nat.sub_sub, Bool.or_self]; try simp) (by simp only [List.forall_mem_cons]; exact ⟨.self, by simp (disch := omega) only [EntIn, hx_map, xmap_skipI, xmap_blk, if_pos, ↓reduceIte], by simp⟩) (Nat.le_refl _)⟩
    · obtain rfl : j = n := by omega
      have hpr := pa_row hlt
      simp (disch := omega) only [Tryd.ntmps47, Tryd.results47, go_sem]
      exact ⟨(i + 1, X, nb), ⟨hlt, hX.row (.inl rfl), hnb⟩, by show j - (i + 1) < j - i; omega, Wk.ofX (by simp only [go_sem, ↓List.forall_mem_cons, List.not_mem_nil, false_implies, implies_true, and_true, true_and, and_self, ri_eq, Int.natCast_add, Int.cast_ofNat_Int, hpr]; try simp) (by simp only [List.forall_mem_cons]; exact ⟨.self, by simp (disch := omega) only [EntIn, hx_map, xmap_skipI, xmap_blk, if_pos, ↓reduceIte], by simp⟩) (Nat.le_refl _)⟩
  · obtain rfl : i = n := by omega
    have hXX := hX.all
    have wF := Tryd.implFM_ok X (by omega) (fun q hq => by rw [hX.1.2 q (by omega)]; omega)
    by_cases hf : fmtM X = s
    · have hp : pm s = some X := by rw [heq, if_pos ⟨hlen, by rw [← hXX]; exact hf⟩, ← hXX]
      have hf1 : (fmtM X == s) = true := by rw [hf]; exact beq_self_eq_true s
      simp (disch := omega) only [Tryd.ntmps47, Tryd.results47, go_sem]
      refine wF.callV 2 (viewL_cons_of (view_mi (M := X) .self hXl.symm) viewL_nil_of) ?_
      simp (disch := omega) only [Tryd.ntmps47, Tryd.results47, go_sem, hf1, Bool.not_true]
      exact fin_pmT hp .self hXl.symm
    · have hp : pm s = none := by rw [heq, if_neg (fun h => hf (by rw [hXX]; exact h.2))]
      have hf1 : (fmtM X == s) = false := by rw [beq_eq_false_iff_ne]; exact hf
      simp (disch := omega) only [Tryd.ntmps47, Tryd.results47, go_sem]
      refine wF.callV 2 (viewL_cons_of (view_mi (M := X) .self hXl.symm) viewL_nil_of) ?_
      simp (disch := omega) only [Tryd.ntmps47, Tryd.results47, go_sem, hf1, Bool.not_false]
      exact fin_pmF hp
end Go.Sh

/-
  The law FnExactParseMatrix, walked.
-/
namespace Go.Sh
set_option linter.unusedSimpArgs false
set_option linter.unusedVariables false
open Go Go.Proofs

theorem Tryd.implPM_t (s : List UInt8) (hs : s.length ≤ 1048576) {M : List (List Int)} (hp : pm s = some M) : FCall Tryd.prog 47 [str s] (fun r H => r = .tup [.own 0 0 (mi M).length (mi M).length 1 false, .val (.bool true)] ∧ H = hx [.mat 0 (mi M)] ((mi M).length + 1)) :=
  ((Tryd.implPM_f s hs).mono (R' := fun r H => ∃ r0, r = .tup [r0, .val (.bool true)] ∧ MatRes (mi M) r0 H) (fun r H hr => by rw [PMR, hp] at hr; exact hr)).matT
theorem Tryd.implPM_n (s : List UInt8) (hs : s.length ≤ 1048576) (hp : pm s = none) : FCall Tryd.prog 47 [str s] (fun r _ => r = .tup ([Value.slice none 0 0, .bool false].map .val)) :=
  (Tryd.implPM_f s hs).mono (fun r H hr => by rw [PMR, hp] at hr; rw [hr]; rfl)
theorem view_tupM {H : Heap} {f : Nat} {r : SV} (h : r = .tup ([Value.slice none 0 0, Value.bool false].map .val)) : view H (f + 1) r = some (.tup [rr [], .val (.bool false)]) := by
  subst h
  have h1 : viewL H f [.val (.slice none 0 0), .val (.bool false)] = some [rr [], .val (.bool false)] := viewL_cons_of view_nilM (viewL_cons_of view_bool viewL_nil_of)
  simp only [List.map_cons, List.map_nil, view, h1]
set_option maxRecDepth 20000 in
set_option maxHeartbeats 16000000 in
theorem Tryd.exactParseMatrix_ok (s : List UInt8) : PCall Tryd.prog 9 [str s] (.val (.bool true)) := by
  refine FCall.pcall (R := fun r _ => r = .val (.bool true)) ?_ 0 (by rintro r H rfl; exact view_bool)
  refine FCall.of_body Tryd.func9 rfl (by kernel_rfl) (by simp [Tryd.ntmps9]) ?_
  refine SW_of_vc Tryd.mixed _ _ _ (by kernel_rfl) ?_
  by_cases sL : 1048576 < s.length
  · simp (disch := omega) only [Tryd.ntmps9, Tryd.results9, go_sem]
    exact Fin.val rfl
  have hs : s.length ≤ 1048576 := by omega
  cases hp : pm s with
  | some M =>
    have hW := pm_WM hp
    have hl8 := hW.1
    have hq1 : M.length ≤ 1048576 := by omega
    have hr8 := hW.2.1
    have hq2 : ∀ i, i < M.length → (mrow M i).length ≤ 1048576 := fun i hi => by rw [hr8 i hi]; omega
    have hq3 : msum M M.length ≤ 64 := by
      have hh : ∀ k, k ≤ M.length → msum M k ≤ 8 * k := by
        intro k
        induction k with
        | zero => intro _; simp [msum]
        | succ k ih => intro hk; rw [msum_succ (by omega), hr8 k (by omega)]; have := ih (by omega); omega
      have := hh M.length (Nat.le_refl _)
      omega
    have hq4 := msum_nonneg M M.length
    have wS : PCall Tryd.prog 46 [str s] (.tup [rr M, .val (.bool true)]) := (Tryd.specPM_f s hs (.inl ⟨hp, rfl⟩)).pcall 3 (fun r H h => h)
    have wT := Tryd.implPM_t s hs hp
    have wI : PCall Tryd.prog 47 [str s] (.tup [rr M, .val (.bool true)]) := wT.pcall 3 (fun r H ⟨h1, h2⟩ => by
      subst h1; subst h2
      have h3 : viewL (hx [.mat 0 (mi M)] ((mi M).length + 1)) 2 [.own 0 0 (mi M).length (mi M).length 1 false, .val (.bool true)] = some [rr M, .val (.bool true)] := viewL_cons_of (view_mi (M := M) .self (mi_length M)) (viewL_cons_of view_bool viewL_nil_of)
      simp only [view, h3])
    have wE := Tryd.eqIntSS_ok M M hq1 hq1 hq2 hq2
    rw [decide_eq_true rfl] at wE
    have wH := Tryd.heldIntSS_marks M 1 hq1 hq2 (by omega) (by omega)
    simp (disch := omega) only [Tryd.ntmps9, Tryd.results9, go_sem]
    refine wS.callV 0 (viewL_cons_of view_str viewL_nil_of) ?_
    simp (disch := omega) only [Tryd.ntmps9, Tryd.results9, go_sem]
    refine wT.callMatT (mi_vals _) 0 (viewL_cons_of view_str viewL_nil_of) ?_
    simp (disch := omega) only [Tryd.ntmps9, Tryd.results9, go_sem, mi_length, rr_eq]
    refine wE.callV 2 (viewL_cons_of (view_mi (M := M) .self rfl) (viewL_cons_of view_row viewL_nil_of)) ?_
    simp (disch := omega) only [Tryd.ntmps9, Tryd.results9, go_sem, mi_length, rr_eq, decide_true, beq_self_eq_true, bne_self_eq_false]
    refine (Tryd.markIntSS_keep M 1 _ _ _ .self rfl hq1 hq2 (by omega) (by omega)).callDet ?_
    simp (disch := omega) only [Tryd.ntmps9, Tryd.results9, go_sem, mi_length, rr_eq]
    refine wH.callV 2 (viewL_cons_of (view_mi (M := marksM M 1) .self (by rw [marksM_length])) (viewL_cons_of view_int viewL_nil_of)) ?_
    simp (disch := omega) only [Tryd.ntmps9, Tryd.results9, go_sem, mi_length, rr_eq, bne_self_eq_false]
    refine wI.callV 2 (viewL_cons_of view_str viewL_nil_of) ?_
    simp (disch := omega) only [Tryd.ntmps9, Tryd.results9, go_sem, mi_length, rr_eq]
    refine wE.callV 2 (viewL_cons_of view_row (viewL_cons_of view_row viewL_nil_of)) ?_
    simp (disch := omega) only [Tryd.ntmps9, Tryd.results9, go_sem, mi_length, rr_eq, decide_true, beq_self_eq_true, bne_self_eq_false]
    refine wH.callV 2 (viewL_cons_of (view_mi (M := marksM M 1) .self (by rw [marksM_length])) (viewL_cons_of view_int viewL_nil_of)) ?_
    simp (disch := omega) only [Tryd.ntmps9, Tryd.results9, go_sem, mi_length, rr_eq, bne_self_eq_false]
    exact Fin.val rfl
  | none =>
    have wS : PCall Tryd.prog 46 [str s] (.tup [rr [], .val (.bool false)]) := (Tryd.specPM_f s hs (.inr ⟨hp, rfl, rfl⟩)).pcall 3 (fun r H h => h)
    have wN := Tryd.implPM_n s hs hp
    have wI : PCall Tryd.prog 47 [str s] (.tup [rr [], .val (.bool false)]) := wN.pcall 1 (fun r H h => view_tupM h)
    have wE := Tryd.eqIntSS_ok [] [] (by simp) (by simp) (by simp) (by simp)
    rw [decide_eq_true rfl] at wE
    have wH := Tryd.heldIntSS_marks [] 1 (by simp) (by simp) (by omega) (by simp [msum])
    have e0 : marksM [] 1 = [] := rfl
    have e1 : msum [] ([] : List (List Int)).length = 0 := rfl
    rw [e0, e1, Int.add_zero] at wH
    simp (disch := omega) only [Tryd.ntmps9, Tryd.results9, go_sem]
    refine wS.callV 0 (viewL_cons_of view_str viewL_nil_of) ?_
    simp (disch := omega) only [Tryd.ntmps9, Tryd.results9, go_sem]
    refine wN.callTup 0 (viewL_cons_of view_str viewL_nil_of) ?_
    simp (disch := omega) only [Tryd.ntmps9, Tryd.results9, go_sem, List.map_cons, List.map_nil, rr_eq]
    refine wE.callV 2 (viewL_cons_of view_nilM (viewL_cons_of view_row viewL_nil_of)) ?_
    simp (disch := omega) only [Tryd.ntmps9, Tryd.results9, go_sem, decide_true, beq_self_eq_true, bne_self_eq_false, rr_eq]
    refine (Tryd.markIntSS_nil 1 _ (by omega) (by omega)).callDet ?_
    simp (disch := omega) only [Tryd.ntmps9, Tryd.results9, go_sem, rr_eq]
    refine wH.callV 2 (viewL_cons_of view_nilM (viewL_cons_of view_int viewL_nil_of)) ?_
    simp (disch := omega) only [Tryd.ntmps9, Tryd.results9, go_sem, bne_self_eq_false, rr_eq]
    refine wI.callV 2 (viewL_cons_of view_str viewL_nil_of) ?_
    simp (disch := omega) only [Tryd.ntmps9, Tryd.results9, go_sem, rr_eq]
    refine wE.callV 2 (viewL_cons_of view_row (viewL_cons_of view_row viewL_nil_of)) ?_
    simp (disch := omega) only [Tryd.ntmps9, Tryd.results9, go_sem, decide_true, beq_self_eq_true, bne_self_eq_false, rr_eq]
    refine wH.callV 2 (viewL_cons_of view_nilM (viewL_cons_of view_int viewL_nil_of)) ?_
    simp (disch := omega) only [Tryd.ntmps9, Tryd.results9, go_sem, bne_self_eq_false, rr_eq]
    exact Fin.val rfl
end Go.Sh

/-
  From the row's condition to the table of the powers of ten and the two sentinels of strconv.
-/
namespace Go.Sh
set_option linter.unusedSimpArgs false
set_option linter.unusedVariables false
open Go Go.Proofs

theorem iface_of_trod {H : Type} {enc : TypeId × Value → H} {P : Program} {w : World} {base : Nat} {sp : Nat → Bool} {held : Bool} {fuel : Nat} {t : TypeId} {ms : Array (String × TypeId)} {cs : List Value} {d : DataW H} {p : List MemPlace} (hu : P.underlying t = some (.interface ms))
    (h : DataW.trod enc P w base sp held fuel t cs = some (d, p)) : ∃ v, cs = [v] ∧ ErrV v := by
  cases fuel with
  | zero => simp [DataW.trod] at h
  | succ fuel =>
    rcases cs with _ | ⟨v, _ | ⟨v2, r⟩⟩
    · simp [DataW.trod, hu] at h
    · cases v <;> first | exact ⟨_, rfl, .inl rfl⟩ | exact ⟨_, rfl, .inr ⟨_, _, rfl⟩⟩ | simp [DataW.trod, hu] at h
    · simp [DataW.trod, hu] at h
theorem Tryd.errSG : Tryd.prog.globalNamed "strconv.ErrSyntax" = some 1 := by kernel_rfl
theorem Tryd.errRG : Tryd.prog.globalNamed "strconv.ErrRange" = some 2 := by kernel_rfl
theorem Tryd.ifu : ∃ ms, Tryd.prog.underlying 87 = some (.interface ms) := isIface_t Tryd.ty.if87
theorem Tryd.errOf {W : World} {n : String} {d : DataW Unit} {g : Nat} (hg : Tryd.prog.globalNamed n = some g) (ht : (Tryd.prog.globals[g]?).map (·.type) = some 87) (h : Lib.VarReads Tryd.prog W n d) :
    (∃ (c : Array Value) (e : TypeId) (fr : Nat × Nat), W.heap[g]? = some (.cells c e fr) ∧ c.size = 1) ∧ ∃ v, W.cell? ⟨g, 0, none⟩ = some v ∧ ErrV v := by
  obtain ⟨g', t, cs, fuel, p, e1, e2, e3, e4⟩ := h
  obtain rfl := Option.some.inj (hg.symm.trans e1)
  obtain rfl := Option.some.inj (ht.symm.trans e2)
  obtain ⟨ms, hu⟩ := Tryd.ifu
  obtain ⟨v, hc, hv⟩ := iface_of_trod hu e4
  have hsz : cs.size = 1 := by
    have := congrArg List.length hc
    simpa using this
  have e5 := e3
  simp only [World.var?, hg, Option.bind_some] at e3
  split at e3
  · rename_i cs' e fr hh
    obtain rfl := Option.some.inj e3
    refine ⟨⟨_, _, _, hh, hsz⟩, v, ?_, hv⟩
    rw [World.var?_cell hg e5 0, ← Array.getElem?_toList, hc]; rfl
  · cases e3
theorem Tryd.tabOkE {W : World} {l : List (String × DataW Unit)} (h : laidMetH Tryd.prog l W) (hp : (l.all fun x => x.2.handleName?.isNone) = true) (hm : ("internal/strconv.uint64pow10", Go.Proofs.YtkmckbjgffaieaaDoor.Rows.laid_internal_strconv_uint64pow10) ∈ l)
    (hes : ("strconv.ErrSyntax", Go.Proofs.YtkmckbjgffaieaaDoor.Rows.laid_strconv_ErrSyntax) ∈ l) (her : ("strconv.ErrRange", Go.Proofs.YtkmckbjgffaieaaDoor.Rows.laid_strconv_ErrRange) ∈ l) : TabOk (fun _ => False) W := by
  rw [MakeChecks.laidMetH_plain _ _ _ hp] at h
  have hs := Tryd.errOf Tryd.errSG (by kernel_rfl) (Lib.laidMet.reads h hes)
  have hr := Tryd.errOf Tryd.errRG (by kernel_rfl) (Lib.laidMet.reads h her)
  obtain ⟨g, t, cs, fuel, p, e1, e2, e3, e4⟩ := Lib.laidMet.reads h hm
  obtain rfl := Option.some.inj (Tryd.powG.symm.trans e1)
  obtain rfl := Option.some.inj ((show (Tryd.prog.globals[3]?).map (·.type) = some 133 by kernel_rfl).symm.trans e2)
  have hd : (Go.Proofs.YtkmckbjgffaieaaDoor.Rows.laid_internal_strconv_uint64pow10 : DataW Unit) = Lib.tabData .u64 Lib.pow10Tab := by kernel_rfl
  rw [hd] at e4
  have hc := Lib.cells_of_tab Tryd.underlying133 Tryd.underlying118 (by kernel_rfl) (by kernel_rfl) e4
  have hsz : cs.size = 20 := by
    have := congrArg List.length hc
    simpa [Lib.pow10Tab] using this
  have e5 := e3
  simp only [World.var?, Tryd.powG, Option.bind_some] at e3
  split at e3
  · rename_i cs' e fr hh
    obtain rfl := Option.some.inj e3
    intro p hp
    simp only [TABS, List.mem_cons, List.not_mem_nil, or_false] at hp
    rcases hp with rfl | rfl | rfl
    · refine ⟨⟨_, _, _, hh, by simpa using hsz⟩, fun i Q hq => ?_⟩
      simp only [List.getElem?_map, Option.map_eq_some_iff] at hq
      obtain ⟨k, hk, rfl⟩ := hq
      have hi : i < 20 := by
        have := (List.getElem?_eq_some_iff.1 hk).1
        simpa using this
      obtain rfl : i = k := by simpa [hi] using hk
      refine ⟨_, ?_, rfl, fun h => h⟩
      rw [World.var?_cell Tryd.powG e5 i, ← Array.getElem?_toList, hc]
      simp [Lib.pow10Tab, hi]
    · obtain ⟨⟨c, e, fr, h1, h2⟩, v, h3, h4⟩ := hs
      refine ⟨⟨c, e, fr, h1, h2⟩, fun i Q hq => ?_⟩
      cases i with
      | zero => simp only [List.getElem?_cons_zero, Option.some.injEq] at hq; subst hq; exact ⟨v, h3, h4, fun h => h⟩
      | succ i => simp at hq
    · obtain ⟨⟨c, e, fr, h1, h2⟩, v, h3, h4⟩ := hr
      refine ⟨⟨c, e, fr, h1, h2⟩, fun i Q hq => ?_⟩
      cases i with
      | zero => simp only [List.getElem?_cons_zero, Option.some.injEq] at hq; subst hq; exact ⟨v, h3, h4, fun h => h⟩
      | succ i => simp at hq
  · cases e3
end Go.Sh
