/-
  Texts put together: FW5, PM1, PM2, CT4, FM2, PM3, FW6, N3, N4, EFnWeights, TBE, TB5, LiftB. What each proves stands at its own head, with its conditions.
-/
import Derived.Test.YtihglnbaoadmcaaGreatDoorZFnWeights5
import Derived.Test.YtihglnbaoadmcaaGreatDoorRows
import Derived.LaidMore
import Derived.Lib.LaidU8
import Derived.Shelf.Vars
import Derived.Handed

set_option linter.unusedSimpArgs false
set_option linter.unusedVariables false
/-
  What FnWeights draws; are two matrices the same.
-/
namespace Go.Sh
open Go Go.RowKit Go.Proofs

theorem view_ownG {H : Heap} {b o n f cap : Nat} {ex e2 : Bool} {G : List Wd} (hb : H.map b = some ⟨strs G, e2⟩) (hn : o + n ≤ G.length) : Sh.view H (f + 1) (.own b o n cap 1 ex) = some (rst ((G.drop o).take n)) := by
  simp only [Sh.view, hb, Nat.mul_one]
  rw [if_pos (by rw [zj]; exact hn)]
  have e : ((strs G).drop o).take n = strs ((G.drop o).take n) := by simp only [strs, List.map_drop, List.map_take]
  rw [e, viewL_strs, rst]
  simp only [List.length_take, List.length_drop]
  rw [show min n (G.length - o) = n by omega]
theorem RecH.view {H : Heap} {lo ob : Nat} {L : List Lr} {f : Nat} (h : RecH H lo L ob) : Sh.view H (f + 2) (.own ob 0 L.length L.length 4 false) = some (rREC (L.map Lr.recd)) := by
  have hL : ∀ K : List Lr, (∀ r ∈ K, LrOk H lo r) → viewL H (f + 1) (lrs K) = some (recs (K.map Lr.recd)) := by
    intro K
    induction K with
    | nil => intro _; exact z7
    | cons r K ih =>
      intro hK
      have hr := hK r (by simp)
      have hlen : ((r.G.drop r.o).take r.n).length = r.n := by have := hr.le; simp; omega
      have h1 : viewL H (f + 1) r.cells = some (rec4 r.recd) := by
        refine z6 z8 (z6 z8 (z6 z8 (z6 ?_ z7)))
        exact view_ownG hr.m hr.le
      exact viewL_append h1 (ih fun q hq => hK q (by simp [hq]))
  have hl := lrs_length L
  simp only [Sh.view, h.o, List.drop_zero]
  rw [if_pos (by omega), List.take_of_length_le (by omega), hL L (fun r hr => (h.row r hr).1)]
  simp only [rREC, List.length_map]
theorem RecH.part {H : Heap} {lo ob : Nat} {L : List Lr} (h : RecH H lo L ob) (p : Nat → Prop) [DecidablePred p] (h1 : p ob) (h2 : ∀ r ∈ L, p r.x) : RecH (Sh.part H p) lo L ob :=
  ⟨by rw [part_map h1, h.o], h.lo1, h.hi1, fun r hr => ⟨(h.row r hr).1.fr (Nat.le_refl _) (part_map (h2 r hr)), (h.row r hr).2⟩⟩
theorem noRowL_lrs : ∀ L : List Lr, noRowL (lrs L) = true
  | [] => rfl
  | r :: L => noRowL_append (a := r.cells) rfl (noRowL_lrs L)
def BwT (T : SV) : Prop := ∃ (R : List Rec) (Q : List (List Con)) (W : List Int) (b : Int), T = .tup [rREC R, .agg [rR Q], sS W b] ∧ R.length ≤ 7 ∧ (∀ k, k < R.length → (gR R k).2.2.2.length ≤ 4 ∧ ∀ p ∈ (gR R k).2.2.2, p.length ≤ 1000) ∧ Q.length ≤ 4 ∧ (∀ i, i < Q.length → (rg Q i).length ≤ 3) ∧ W.length = 6
open Classical in
theorem fin_bw {H : Heap} {lo ro ob lb : Nat} {L : List Lr} {cs : List SV} {nm : Nat → Nat} {Q : List (List Con)} {W : List Int} {b : Int} (hL : RecH H lo L ro) (h7 : L.length ≤ 7) (hR : RuH H lo Q ob cs nm) (hl : H.map lb = some ⟨ints W, false⟩)
    (h14 : Q.length ≤ 4) (h3 : ∀ i, i < Q.length → (rg Q i).length ≤ 3) (hW : W.length = 6) :
    Fin (R3' BwT) (.tup [.own ro 0 L.length L.length 4 false, .agg [nlG 1 ob Q.length], .agg [.own lb 0 6 6 1 false, .val (.int .i64 b)]]) H := by
  let p : Nat → Prop := fun b => ((Q.length ≠ 0 ∧ b = ob) ∨ (∃ i, i < Q.length ∧ (rg Q i).length ≠ 0 ∧ b = nm i)) ∨ b = lb ∨ b = ro ∨ ∃ r ∈ L, b = r.x
  have hR2 := hR.part p (fun h => .inl (.inl ⟨h, rfl⟩)) (fun i hi h => .inl (.inr ⟨i, hi, h, rfl⟩))
  have hl2 : (part H p).map lb = some ⟨ints W, false⟩ := by rw [part_map (.inr (.inl rfl)), hl]
  have hL2 := hL.part p (.inr (.inr (.inl rfl))) (fun r hr => .inr (.inr (.inr ⟨r, hr, rfl⟩)))
  refine ⟨part H p, part_sub H p, by simp only [noRow, noRowL, noRow_nlG, Bool.and_self], fun b blk hb => ?_, .tup [rREC (L.map Lr.recd), .agg [rR Q], sS W b], ?_, L.map Lr.recd, Q, W, b, rfl, by simpa using h7, fun k hk => ?_, h14, h3, hW⟩
  · have hb' : (if p b then H.map b else none) = some blk := hb
    split at hb'
    · rename_i hp
      rcases hp with (⟨h0, rfl⟩ | ⟨i, hi, h0, rfl⟩) | rfl | rfl | ⟨r, hr, rfl⟩
      · rw [hR.o h0] at hb'; simp at hb'; subst hb'; exact hR.nr
      · rw [((hR.row i hi).2 h0).1] at hb'; simp at hb'; subst hb'; exact noRowL_cons _
      · rw [hl] at hb'; simp at hb'; subst hb'; exact noRowL_ints _
      · rw [hL.o] at hb'; simp at hb'; subst hb'; exact noRowL_lrs _
      · rw [(hL.row r hr).1.m] at hb'; simp at hb'; subst hb'; exact noRowL_strs _
    · simp at hb'
  · have v0 : Sh.view (part H p) 4 (.own ro 0 L.length L.length 4 false) = some (rREC (L.map Lr.recd)) := hL2.view (f := 2)
    have v1 : Sh.view (part H p) 4 (.agg [nlG 1 ob Q.length]) = some (.agg [rR Q]) := by
      have : viewL (part H p) 3 [nlG 1 ob Q.length] = some [rR Q] := z6 (hR2.view (f := 1)) z7
      simp only [Sh.view, this]
    have v2 : Sh.view (part H p) 4 (.agg [.own lb 0 6 6 1 false, .val (.int .i64 b)]) = some (sS W b) := by
      have : viewL (part H p) 3 [.own lb 0 6 6 1 false, .val (.int .i64 b)] = some [ri W, .val (.int .i64 b)] := z6 (view_own hl2 hW.symm) (z6 z8 z7)
      simp only [Sh.view, this, sS]
    have : viewL (part H p) 4 [.own ro 0 L.length L.length 4 false, .agg [nlG 1 ob Q.length], .agg [.own lb 0 6 6 1 false, .val (.int .i64 b)]] = some [rREC (L.map Lr.recd), .agg [rR Q], sS W b] := z6 v0 (z6 v1 (z6 v2 z7))
    simp only [Sh.view, this]
  · have hk' : k < L.length := by simpa using hk
    have e : gR (L.map Lr.recd) k = L[k].recd := by simp [gR, hk']
    obtain ⟨k1, _⟩ := hL.row _ (List.getElem_mem hk')
    rw [e]
    refine ⟨?_, fun p hp => k1.w p (List.mem_of_mem_drop (List.mem_of_mem_take hp))⟩
    have := k1.g4
    show ((L[k].G.drop L[k].o).take L[k].n).length ≤ 4
    simp; omega
set_option maxHeartbeats 8000000 in
theorem Tryz.drawBw_e (B : List Int) (hB : B.length ≤ 1048576) : PCallE Tryz.prog 23 [rby B] BwT := by
  refine FCall.pcallE (R := R3' BwT) ?_ 5 (fun _ _ h => h)
  refine FCall.of_body Tryz.func23 rfl (by kernel_rfl) (by simp [Tryz.ntmps23]) ?_
  refine SW_of_vc Tryz.mixed _ _ _ (by kernel_rfl) ?_
  simp (disch := omega) only [go_sem, rby]
  refine (Tryz.l1New_ok B hB _).callX ?_
  rintro r H0 ⟨h, rfl, rfl⟩
  generalize hHd : hp [(1, ⟨[.val (.slice none 0 0), .val (.int .i64 0)], true⟩), (0, ⟨[.val (.slice none 0 0)], true⟩)] 2 = Hd at *
  have hm0 : Hd.map 0 = some ⟨[.val (.slice none 0 0)], true⟩ := by rw [← hHd]; rfl
  have hm1 : Hd.map 1 = some ⟨[.val (.slice none 0 0), .val (.int .i64 0)], true⟩ := by rw [← hHd]; rfl
  have hnd : Hd.nb = 2 := by rw [← hHd]; rfl
  clear hHd
  have hc : Cur B (Hd.push (curB B 0 h)) 2 := ⟨0, h, by omega, by rw [zb, hnd]; rfl⟩
  have hn0 : (Hd.push (curB B 0 h)).nb = 3 := by rw [za, hnd]
  have hm0 : (Hd.push (curB B 0 h)).map 0 = some ⟨[.val (.slice none 0 0)], true⟩ := by rw [zb, if_neg (by omega), hm0]
  have hm1 : (Hd.push (curB B 0 h)).map 1 = some ⟨[.val (.slice none 0 0), .val (.int .i64 0)], true⟩ := by rw [zb, if_neg (by omega), hm1]
  rw [hnd]
  generalize Hd.push (curB B 0 h) = H0 at *
  simp (disch := omega) only [go_sem, rby]
  refine (Tryz.l13Records_ok B hB H0 2 hc (by omega)).callX ?_
  rintro r H1 ⟨L, ro, rfl, hL, h7, hd1⟩
  have hn1 := hd1.nb
  simp (disch := omega) only [go_sem, rby]
  refine (Tryz.l14Known_ok B hB H1 2 hd1.cur (by omega)).callX ?_
  rintro r H2 ⟨R, ob, cs, nm, rfl, hR, hd2, h14, h3⟩
  have hn2 := hd2.nb
  simp (disch := omega) only [go_sem, rby]
  refine (Tryz.l16Any_ok B hB H2 2 hd2.cur (by omega)).callX ?_
  rintro r H3 ⟨W, b, lb, rfl, hml, l1, l2, hW, hd3⟩
  have hn3 := hd3.nb
  have a0 : H3.map 0 = some ⟨[.val (.slice none 0 0)], true⟩ := by rw [hd3.fr _ (by omega) (by omega), hd2.fr _ (by omega) (by omega), hd1.fr _ (by omega) (by omega), hm0]
  have a1 : H3.map 1 = some ⟨[.val (.slice none 0 0), .val (.int .i64 0)], true⟩ := by rw [hd3.fr _ (by omega) (by omega), hd2.fr _ (by omega) (by omega), hd1.fr _ (by omega) (by omega), hm1]
  have hR3 : RuH H3 3 R ob cs nm := (hR.fr hd3.nb (fun b b1 b2 => hd3.fr b b2 (by omega))).low (by omega)
  have hL3 : RecH H3 3 L ro := by
    rw [← hn0]
    exact (hL.fr hd2.nb (fun b b1 b2 => hd2.fr b b2 (by omega))).fr hd3.nb (fun b b1 b2 => hd3.fr b b2 (by omega))
  have e0 := nlG_f (z := 1) (b := ob) (n := R.length) (by omega)
  simp (disch := omega) only [go_sem, rby, e0, a0, a1, List.set_cons_zero, List.set_cons_succ, ze, zc]
  rw [← e0]
  have f1 : ∀ z, 3 ≤ z → ((H3.set 0 (some ⟨[nlG 1 ob R.length], true⟩)).set 1 (some ⟨[.own lb 0 6 6 1 false, .val (.int .i64 b)], true⟩)).map z = H3.map z := fun z hz => by rw [ze, if_neg (by omega), ze, if_neg (by omega)]
  have hR4 := hR3.fr (H' := (H3.set 0 (some ⟨[nlG 1 ob R.length], true⟩)).set 1 (some ⟨[.own lb 0 6 6 1 false, .val (.int .i64 b)], true⟩)) (by simp only [zc]; omega) (fun z z1 z2 => f1 z z1)
  have hL4 := hL3.fr (H' := (H3.set 0 (some ⟨[nlG 1 ob R.length], true⟩)).set 1 (some ⟨[.own lb 0 6 6 1 false, .val (.int .i64 b)], true⟩)) (by simp only [zc]; omega) (fun z z1 z2 => f1 z z1)
  refine fin_bw hL4 h7 hR4 ?_ (by omega) (fun i hi => by have := h3 i hi; omega) hW
  rw [f1 _ (by omega)]
  exact hml
def MxT (T : SV) : Prop := ∃ M, T = rr M ∧ M.length ≤ 7 ∧ ∀ i, i < M.length → (mrow M i).length ≤ 6
open Classical in
theorem fin_mx {H : Heap} {lo ob c1 : Nat} {e1 : Bool} {cs : List SV} {nm : Nat → Nat} {M : List (List Int)} (hM : MatH H lo ob cs nm M) (h7 : M.length ≤ 7) (h6 : ∀ i, i < M.length → (mrow M i).length ≤ 6) :
    Fin (R3 MxT) (.own ob 0 M.length c1 1 e1) H := by
  let p : Nat → Prop := fun b => b = ob ∨ (∃ i, i < M.length ∧ b = nm i)
  have hM2 := hM.part p (.inl rfl) (fun i hi => .inr ⟨i, hi, rfl⟩)
  refine ⟨part H p, part_sub H p, rfl, fun b blk hb => ?_, rr M, hM2.viewH (f := 1), M, rfl, h7, h6⟩
  have hb' : (if p b then H.map b else none) = some blk := hb
  split at hb'
  · rename_i hp
    rcases hp with rfl | ⟨i, hi, rfl⟩
    · rw [hM.o] at hb'; simp at hb'; subst hb'; exact hM.nr
    · obtain ⟨e, e2, k1, k2⟩ := hM.row i hi
      rw [k2] at hb'; simp at hb'; subst hb'; exact noRowL_ints _
  · simp at hb'
set_option maxHeartbeats 8000000 in
theorem Tryz.drawFm_e (B : List Int) (hB : B.length ≤ 1048576) : PCallE Tryz.prog 27 [rby B] MxT := by
  refine FCall.pcallE (R := R3 MxT) ?_ 3 (fun _ _ h => h)
  refine FCall.of_body Tryz.func27 rfl (by kernel_rfl) (by simp [Tryz.ntmps27]) ?_
  refine SW_of_vc Tryz.mixed _ _ _ (by kernel_rfl) ?_
  simp (disch := omega) only [go_sem, rby]
  refine (Tryz.l1New_ok B hB _).callX ?_
  rintro r H0 ⟨h, rfl, rfl⟩
  have hc : Cur B ((hp [] 0).push (curB B 0 h)) 0 := ⟨0, h, by omega, by rw [zb]; rfl⟩
  have hn0 : ((hp [] 0).push (curB B 0 h)).nb = 1 := rfl
  generalize (hp [] 0).push (curB B 0 h) = H0 at *
  simp (disch := omega) only [go_sem, rby]
  refine (Tryz.l17Any_ok B hB H0 0 hc (by omega)).callX ?_
  rintro r H1 ⟨ob, cs, nm, M, rfl, hM, hd, ⟨hl1, hl7⟩, hr6⟩
  simp (disch := omega) only [go_sem, rby]
  exact fin_mx hM hl7 hr6
theorem Tryz.sameRows_ok (M : List (List Int)) (hM : M.length ≤ 1048576) (hR : ∀ i, i < M.length → (mrow M i).length ≤ 1048576) : PCall Tryz.prog 24 [rr M, rr M] (.val (.bool true)) := by
  refine FCall.pcall (R := fun r _ => r = .val (.bool true)) ?_ 0 (by rintro r H rfl; exact zg)
  refine FCall.of_body Tryz.func24 rfl (by kernel_rfl) (by simp [Tryz.ntmps24]) ?_
  refine SW_of_vc Tryz.mixed _ _ _ (by kernel_rfl) ?_
  simp (disch := omega) only [go_sem, rr_eq, bne_self_eq_false]
  refine LoopW.loop (fun k : Nat => ⟨ofL [(0, rr M), (1, rr M), (5, .val (.int .i64 k))], hp [] 0⟩) (fun k => k ≤ M.length) (fun k => M.length - k) 0 (by omega) (Wk.of (by simp only [go_sem, ↓List.forall_mem_cons, List.not_mem_nil, false_implies, implies_true, and_true, true_and, and_self, ri_eq, Int.natCast_add, Int.cast_ofNat_Int, rr_eq]; try simp) rfl) ?_
  intro k hk
  refine SW_of_vc Tryz.mixed _ _ _ (by kernel_rfl) ?_
  have rl : (rows M).length = M.length := by simp [rows]
  by_cases hlt : k < M.length
  · have gr : (rows M)[k]? = some (.row (mrow M k).length false (ints (mrow M k))) := rows_get hlt
    have w := Tryz.sameInts_ok (mrow M k) (hR k hlt)
    simp (disch := omega) only [go_sem, rr_eq, gr, rl, bne_self_eq_false]
    refine w.callDV 0 (z6 zf (z6 zf z7)) ?_
    simp (disch := omega) only [go_sem, rr_eq, gr, rl, bne_self_eq_false]
    exact ⟨k + 1, by omega, by omega, Wk.of (by simp only [go_sem, ↓List.forall_mem_cons, List.not_mem_nil, false_implies, implies_true, and_true, true_and, and_self, ri_eq, Int.natCast_add, Int.cast_ofNat_Int, rr_eq]; try simp) rfl⟩
  · simp (disch := omega) only [go_sem, rr_eq, rl]
    exact Fin.val rfl
end Go.Sh

/-
  Matrices read back from their text: plain law.
-/
namespace Go.Sh
open Go Go.Proofs

theorem itoa_no {n : Int} : (32 : UInt8) ∉ Lib.itoa n := by
  have key : ∀ u, (32 : UInt8) ∉ Lib.decDigits u := fun u hm => by
    have := (decDigits_facts u).1 32 hm
    exact absurd this (by decide)
  unfold Lib.itoa
  split
  · intro hm
    rcases List.mem_cons.1 hm with e | hm
    · exact absurd e (by decide)
    · exact key _ hm
  · exact key _
theorem txt_cut {l : List Int} (h : l ≠ []) : cutL 32 (txt l) = l.map Lib.itoa := by
  cases l with
  | nil => exact absurd rfl h
  | cons x r =>
    rw [txt, List.map_cons]
    refine cutL_join fun q hq => ?_
    rw [← List.map_cons] at hq
    obtain ⟨y, _, rfl⟩ := List.mem_map.1 hq
    exact itoa_no
def vals (P : List (List UInt8)) : List Int := P.map fun p => (pint p).getD 0
theorem vals_length (P : List (List UInt8)) : (vals P).length = P.length := by simp [vals]
def off (n : Nat) : Nat → Nat
  | 0 => 0
  | i + 1 => off n i + (n - 1 - i)
theorem off_mono (n : Nat) {a b : Nat} (h : a ≤ b) : off n a ≤ off n b := by
  induction b with
  | zero => obtain rfl : a = 0 := by omega
            exact Nat.le_refl _
  | succ b ih =>
    by_cases e : a = b + 1
    · rw [e]; exact Nat.le_refl _
    · exact Nat.le_trans (ih (by omega)) (Nat.le_add_right _ _)
def pos (n i k : Nat) : Nat := off n i + (k - i - 1)
def pmM (n : Nat) (l : List Int) : List (List Int) := genM n fun a b => if a = b then 0 else l.getD (pos n (min a b) (max a b)) 0
theorem up_length {M : List (List Int)} (h : WM M) : ∀ i, i ≤ M.length → (up M i).length = 1 + off M.length i
  | 0, _ => rfl
  | i + 1, hi => by
    rw [up, List.length_append, up_length h i (by omega), List.length_drop, h.2.1 i (by omega), off]; omega
theorem up_get {M : List (List Int)} (h : WM M) {i k : Nat} (hik : i < k) (hk : k < M.length) : ∀ j, i < j → j ≤ M.length → (up M j).getD (1 + pos M.length i k) 0 = mat M i k
  | 0, h0, _ => by omega
  | j + 1, hj, hjl => by
    have hl := up_length h j (by omega)
    rw [up]
    by_cases e : j = i
    · subst e
      rw [List.getD_eq_getElem?_getD, List.getElem?_append_right (by rw [hl, pos]; omega), hl, pos, show 1 + (off M.length j + (k - j - 1)) - (1 + off M.length j) = k - j - 1 by omega, List.getElem?_drop, show j + 1 + (k - j - 1) = k by omega, mat, List.getD_eq_getElem?_getD]
    · have ih := up_get h hik hk j (by omega) (by omega)
      have h2 := off_mono M.length (a := i + 1) (b := j) (by omega)
      rw [off] at h2
      rw [List.getD_eq_getElem?_getD, List.getElem?_append_left (by rw [hl, pos]; omega), ← List.getD_eq_getElem?_getD]
      exact ih
theorem pmM_up {M : List (List Int)} (h : WM M) : pmM M.length (up M M.length).tail = M := by
  refine SqI.ext (n := M.length) (genM_sq _ _) ⟨rfl, fun i hi => h.2.1 i hi⟩ fun a b ha hb => ?_
  rw [pmM, genM_at ha hb]
  have ht : ∀ p, (up M M.length).tail.getD p 0 = (up M M.length).getD (1 + p) 0 := fun p => by
    rw [List.getD_eq_getElem?_getD, List.getD_eq_getElem?_getD, List.getElem?_tail, Nat.add_comm]
  split
  · rename_i e; subst e; exact (h.2.2.2 a ha).symm
  · rename_i e
    rw [ht]
    by_cases hab : a < b
    · rw [show min a b = a by omega, show max a b = b by omega]
      exact up_get h hab hb _ (by omega) (Nat.le_refl _)
    · rw [show min a b = b by omega, show max a b = a by omega, up_get h (by omega) ha _ (by omega) (Nat.le_refl _)]
      exact (h.2.2.1 b a hb ha).2
theorem off_all {n : Nat} (h1 : 1 ≤ n) (h8 : n ≤ 8) : ((n : Int) * ((n : Int) - 1)) = 2 * (off n n : Int) := by
  have : n = 1 ∨ n = 2 ∨ n = 3 ∨ n = 4 ∨ n = 5 ∨ n = 6 ∨ n = 7 ∨ n = 8 := by omega
  rcases this with rfl | rfl | rfl | rfl | rfl | rfl | rfl | rfl <;> decide

noncomputable def pm (s : List UInt8) : Option (List (List Int)) :=
  if 1 ≤ (vals (cutL 32 s)).getD 0 0 ∧ (vals (cutL 32 s)).getD 0 0 ≤ 8 ∧ (cutL 32 s).length = 1 + off ((vals (cutL 32 s)).getD 0 0).toNat ((vals (cutL 32 s)).getD 0 0).toNat ∧ fmtM (pmM ((vals (cutL 32 s)).getD 0 0).toNat (vals (cutL 32 s)).tail) = s
  then some (pmM ((vals (cutL 32 s)).getD 0 0).toNat (vals (cutL 32 s)).tail) else none
theorem cutL_nil (c : UInt8) : cutL c [] = [[]] := rfl
theorem fmtM_WM {M : List (List Int)} {s : List UInt8} (h : fmtM M = s) (h0 : s ≠ []) : WM M ∧ txt (up M M.length) = s := by
  rcases isWM_cases M with ⟨hw, he⟩ | he
  · rw [fmtM, he] at h; exact ⟨hw, h⟩
  · rw [fmtM, he] at h; exact absurd h.symm h0
theorem pm_all {s : List UInt8} {M : List (List Int)} (h : pm s = some M) : ∀ p ∈ cutL 32 s, ∃ n, pint p = some n := by
  rw [pm] at h
  split at h
  · rename_i hh
    obtain ⟨h1, h2, h3, h4⟩ := hh
    have h0 : s ≠ [] := by
      rintro rfl
      rw [cutL_nil] at h1
      simp [vals, pint_nil] at h1
    obtain ⟨hw, ht⟩ := fmtM_WM h4 h0
    generalize pmM ((vals (cutL 32 s)).getD 0 0).toNat (vals (cutL 32 s)).tail = M at *
    intro p hp
    rw [← ht, txt_cut (up_ne _ _)] at hp
    obtain ⟨x, hx, rfl⟩ := List.mem_map.1 hp
    have := (up_it hw _ (Nat.le_refl _)).1 x hx
    exact ⟨x, pint_itoa (by omega) (by omega)⟩
  · cases h
theorem pm_fmt {M : List (List Int)} (h : WM M) : pm (fmtM M) = some M := by
  have hf : fmtM M = txt (up M M.length) := by rw [fmtM, isWM_t h]; rfl
  have hc : cutL 32 (fmtM M) = (up M M.length).map Lib.itoa := by rw [hf, txt_cut (up_ne _ _)]
  have hv : vals (cutL 32 (fmtM M)) = up M M.length := by
    rw [hc, vals, List.map_map]
    have : ∀ x ∈ up M M.length, ((fun p => (pint p).getD 0) ∘ Lib.itoa) x = id x := fun x hx => by
      have := (up_it h _ (Nat.le_refl _)).1 x hx
      simp only [Function.comp, pint_itoa (n := x) (by omega) (by omega), Option.getD_some, id]
    rw [List.map_congr_left this, List.map_id]
  have h00 : ∀ j, (up M j).getD 0 0 = (M.length : Int) := by
    intro j
    induction j with
    | zero => rfl
    | succ j ih =>
      rw [up, List.getD_eq_getElem?_getD, List.getElem?_append_left (List.length_pos_iff.2 (up_ne M j)), ← List.getD_eq_getElem?_getD]; exact ih
  rw [pm, hv, h00, Int.toNat_natCast, pmM_up h, if_pos]
  have := h.1
  refine ⟨by omega, by omega, ?_, rfl⟩
  rw [hc, List.length_map, up_length h _ (Nat.le_refl _)]

def PMs (n : Nat) (l : List Int) (X : List (List Int)) (i k : Nat) : Prop :=
  SqI n X ∧ ∀ a b, a < n → b < n → mat X a b = if a = b then 0 else if min a b < i ∨ (min a b = i ∧ max a b < k) then l.getD (pos n (min a b) (max a b)) 0 else 0
theorem PMs.zero (n : Nat) (l : List Int) : PMs n l (zs n) 0 1 := ⟨.zs n, fun a b ha hb => by
  rw [zs_at]
  split
  · rfl
  · rw [if_neg (by omega)]⟩
theorem PMs.row {n : Nat} {l : List Int} {X : List (List Int)} {i k : Nat} (h : PMs n l X i k) (hk : k = n ∨ n ≤ i + 1) : PMs n l X (i + 1) (i + 2) := ⟨h.1, fun a b ha hb => by
  rw [h.2 a b ha hb]
  by_cases e : a = b
  · rw [if_pos e, if_pos e]
  · rw [if_neg e, if_neg e]
    by_cases g : min a b < i ∨ (min a b = i ∧ max a b < k)
    · rw [if_pos g, if_pos (by omega)]
    · rw [if_neg g, if_neg (by omega)]⟩
theorem PMs.put {n : Nat} {l : List Int} {X : List (List Int)} {i k : Nat} (h : PMs n l X i k) (hik : i < k) (hk : k < n) {x : Int} (hx : x = l.getD (pos n i k) 0) : PMs n l (mset (mset X i k x) k i x) i (k + 1) := by
  refine ⟨(h.1.set _ _ _).set _ _ _, fun a b ha hb => ?_⟩
  have hX := h.1
  rw [mset_at _ _ _ _ (by rw [mset_length, hX.1]; omega) (by rw [mset_row_length, hX.2 k (by omega)]; omega), mset_at _ _ _ _ (by rw [hX.1]; omega) (by rw [hX.2 i (by omega)]; omega), h.2 a b ha hb]
  by_cases e1 : a = k ∧ b = i
  · rw [if_pos e1, if_neg (by omega), if_pos (by omega), hx, show min a b = i by omega, show max a b = k by omega]
  · rw [if_neg e1]
    by_cases e2 : a = i ∧ b = k
    · rw [if_pos e2, if_neg (by omega), if_pos (by omega), hx, show min a b = i by omega, show max a b = k by omega]
    · rw [if_neg e2]
      by_cases e : a = b
      · rw [if_pos e, if_pos e]
      · rw [if_neg e, if_neg e]
        by_cases g : min a b < i ∨ (min a b = i ∧ max a b < k)
        · rw [if_pos g, if_pos (by omega)]
        · rw [if_neg g, if_neg (by omega)]
theorem PMs.all {n : Nat} {l : List Int} {X : List (List Int)} {k : Nat} (h : PMs n l X n k) : X = pmM n l := by
  refine SqI.ext h.1 (genM_sq _ _) fun a b ha hb => ?_
  rw [h.2 a b ha hb, pmM, genM_at ha hb]
  split
  · rfl
  · rw [if_pos (by omega)]
theorem pos_lt {n i k : Nat} (hik : i < k) (hk : k < n) : pos n i k < off n n := by
  have h2 := off_mono n (a := i + 1) (b := n) (by omega)
  rw [off] at h2
  rw [pos]; omega
end Go.Sh

/-
  ParseMatrix: of the reference.
-/
namespace Go.Sh
open Go Go.Proofs

section
variable {P : Program}
end
def pa (n i k : Nat) : Nat := 1 + pos n i k
theorem pa_succ {n i k : Nat} (h : i < k) : pa n i (k + 1) = pa n i k + 1 := by simp only [pa, pos]; omega
theorem pa_row {n i : Nat} (h : i < n) : pa n i n = pa n (i + 1) (i + 2) := by simp only [pa, pos, off]; omega
theorem pa_zero (n : Nat) : pa n 0 1 = 1 := rfl
theorem cutL_pos (c : UInt8) (s : List UInt8) : 0 < (cutL c s).length := by rw [cutL_len]; omega
theorem pm_bad1 {s : List UInt8} (h : ¬ (1 ≤ (vals (cutL 32 s)).getD 0 0 ∧ (vals (cutL 32 s)).getD 0 0 ≤ 8)) : pm s = none := by rw [pm, if_neg (fun g => h ⟨g.1, g.2.1⟩)]
theorem pm_eq {s : List UInt8} {n : Nat} (hn : (vals (cutL 32 s)).getD 0 0 = n) (h1 : 1 ≤ n) (h8 : n ≤ 8) : pm s = if (cutL 32 s).length = 1 + off n n ∧ fmtM (pmM n (vals (cutL 32 s)).tail) = s then some (pmM n (vals (cutL 32 s)).tail) else none := by
  rw [pm, hn, Int.toNat_natCast]
  by_cases h : (cutL 32 s).length = 1 + off n n ∧ fmtM (pmM n (vals (cutL 32 s)).tail) = s
  · rw [if_pos h, if_pos ⟨by omega, by omega, h⟩]
  · rw [if_neg h, if_neg (fun g => h g.2.2)]
end Go.Sh

/-
  ParsePartition of the program.
-/
namespace Go.Sh
open Go Go.Proofs

theorem takeS_succ {q : List (List UInt8)} {j : Nat} (h : j < q.length) : q.take (j + 1) = q.take j ++ [q.getD j []] := by
  rw [List.take_add_one, List.getElem?_eq_getElem h]; simp [List.getD, h]
theorem fin_val2 {R : SV → Heap → Prop} {a b : Value} {H : Heap} (h : R (.tup [.val a, .val b]) ⟨fun _ => none, H.nb⟩) : Fin R (.tup [.val a, .val b]) H :=
  ⟨⟨fun _ => none, H.nb⟩, ⟨rfl, fun _ => .inl rfl⟩, by simp [noRow, noRowL], fun b blk hb => by simp at hb, h⟩
end Go.Sh

/-
  FormatMatrix of the program; the law walked.
-/
namespace Go.Sh
open Go Go.Proofs

set_option maxHeartbeats 4000000 in
theorem Tryz.implFM_ok (M : List (List Int)) (hM : M.length ≤ 1048576) (hR : ∀ i, i < M.length → (mrow M i).length ≤ 1048576) : PCall Tryz.prog 28 [rr M] (str (fmtM M)) := by
  have w := Tryz.implIsWM_ok M hM hR
  refine FCall.pcall (R := fun r _ => r = str (fmtM M)) ?_ 0 (by rintro r H rfl; exact zd)
  refine FCall.of_body Tryz.func28 rfl (by kernel_rfl) (by simp [Tryz.ntmps28]) ?_
  refine SW_of_vc Tryz.mixed _ _ _ (by kernel_rfl) ?_
  rcases isWM_cases M with ⟨hW, he⟩ | he
  case inr =>
    rw [he] at w
    simp (disch := omega) only [go_sem, rr_eq]
    refine w.callV 0 (z6 (zf) z7) ?_
    simp (disch := omega) only [go_sem, rr_eq]
    exact Fin.val (by rw [fmtM, he]; rfl)
  rw [he] at w
  have hl8 := hW.1
  obtain ⟨a1, a2⟩ := up_it hW M.length (Nat.le_refl _)
  have wJ : PCall Tryz.prog 74 [ri (up M M.length), str [32]] (str (txt (up M M.length))) := Tryz.joinInts_ok (up M M.length) [32] (by omega) (fun i hi => by
    have := a1 ((up M M.length).getD i 0) (by simp [hi])
    exact Tryz.implFI_ok _ (by omega) (by omega)) (by
    have := txt_le a1
    show (txt (up M M.length)).length ≤ _
    omega)
  have hup0 : (up M 0).length = 1 := rfl
  simp (disch := omega) only [go_sem, rr_eq]
  refine w.callV 0 (z6 (zf) z7) ?_
  simp (disch := omega) only [go_sem, rr_eq]
  refine LoopW.loop (fun p : Nat × Nat × Nat => ⟨ofL [(3, .own p.2.1 0 (up M p.1).length (up M p.1).length 1 false), (12, rr M), (13, .val (.int .i64 M.length)), (14, .val (.int .i64 p.1))], hx [.blk p.2.1 ⟨ints (up M p.1), false⟩] p.2.2⟩)
    (fun p => p.1 ≤ M.length ∧ p.2.1 < p.2.2) (fun p => M.length - p.1) (0, 0, 1) ⟨by simp, by simp⟩ (Wk.ofX (by simp only [go_sem, ↓List.forall_mem_cons, List.not_mem_nil, false_implies, implies_true, and_true, true_and, and_self, ri_eq, Int.natCast_add, Int.cast_ofNat_Int, rr_eq, hup0]; try simp) (by simp [EntIn, hp, hmap, up, ints]) (by simp [hp])) ?_
  rintro ⟨i, ob, nb⟩ ⟨hi, hob⟩
  simp only at hi hob
  refine SW_of_vc Tryz.mixed _ _ _ (by kernel_rfl) ?_
  have il := zh (up M i)
  have it : (ints (up M i)).take (up M i).length = ints (up M i) := List.take_of_length_le (by omega)
  obtain ⟨u1, u2⟩ := up_it hW i hi
  by_cases hlt : i < M.length
  · have hg := rows_get hlt
    have hrl := hW.2.1 i hlt
    rw [hrl] at hg
    have hup : up M (i + 1) = up M i ++ (mrow M i).drop (i + 1) := rfl
    have hap : ints (up M i) ++ ints ((mrow M i).drop (i + 1)) = ints (up M (i + 1)) := by rw [hup]; simp [ints]
    have hdl : ((mrow M i).drop (i + 1)).length = M.length - (i + 1) := by rw [List.length_drop, hrl]
    have hul : (up M (i + 1)).length = (up M i).length + (M.length - (i + 1)) := by rw [hup, List.length_append, hdl]
    have hid := ints_drop (mrow M i) (i + 1)
    have hil : (ints ((mrow M i).drop (i + 1))).length = M.length - (i + 1) := by rw [zh, hdl]
    have hit2 : (ints ((mrow M i).drop (i + 1))).take (M.length - (i + 1)) = ints ((mrow M i).drop (i + 1)) := List.take_of_length_le (by omega)
    have t1 : ((i : Int) + 1).toNat = i + 1 := by omega
    by_cases hlast : i + 1 = M.length
    · have hz : M.length - (i + 1) = 0 := by omega
      have hnil : (mrow M i).drop (i + 1) = [] := List.drop_eq_nil_of_le (by omega)
      have hsame : up M (i + 1) = up M i := by rw [hup, hnil, List.append_nil]
      rw [hnil] at hid hap hil hit2
      simp (disch := omega) only [go_sem, rr_eq, hg, t1, hid, il, it, hit2, ints_flat, hz]
      exact ⟨(i + 1, ob, nb), ⟨hlt, hob⟩, by simp only; omega, Wk.of (by simp only [go_sem, ↓List.forall_mem_cons, List.not_mem_nil, false_implies, implies_true, and_true, true_and, and_self, ri_eq, Int.natCast_add, Int.cast_ofNat_Int, rr_eq, hsame]; try simp) (by simp only [hsame])⟩
    · simp (disch := omega) only [go_sem, rr_eq, hg, t1, hid, il, it, hit2, ints_flat, hap]
      refine ⟨(i + 1, nb, nb + 1), ⟨hlt, by simp only; omega⟩, by simp only; omega, ?_⟩
      refine Wk.ofX (by simp only [go_sem, ↓List.forall_mem_cons, List.not_mem_nil, false_implies, implies_true, and_true, true_and, and_self, ri_eq, Int.natCast_add, Int.cast_ofNat_Int, rr_eq, hul]; try simp) ?_ (Nat.le_refl _)
      simp only [List.forall_mem_cons]
      refine ⟨?_, by simp⟩
      simp (disch := omega) only [EntIn, hx_map, zl, if_pos, if_neg, ↓reduceIte]
  · obtain rfl : i = M.length := by omega
    simp (disch := omega) only [go_sem, rr_eq]
    refine wJ.callV 2 (z6 (view_own (L := up M M.length) (e2 := false) (by first | rfl | (simp (disch := omega) only [hx_map, hp_map, zl, zm, zk, xmap_nil, if_pos, if_neg, ↓reduceIte]; try rfl)) rfl) (z6 zd z7)) ?_
    simp (disch := omega) only [go_sem, rr_eq]
    exact Fin.val (by rw [fmtM, he]; rfl)

end Go.Sh

/-
  ParseMatrix: of the program.
-/
namespace Go.Sh
open Go Go.Proofs

section
variable {P : Program}
theorem FCall.matT {f : FuncId} {args : List SV} {R : List (List SV)} {u : Value} (h : FCall P f args (fun r H => ∃ r0, r = .tup [r0, .val u] ∧ MatRes R r0 H)) :
    FCall P f args (fun r H => r = .tup [.own 0 0 R.length R.length 1 false, .val u] ∧ H = hx [.mat 0 R] (R.length + 1)) := by
  refine ⟨h.1, fun w vs hl ht => (h.2 w vs hl ht).mono ?_⟩
  rintro e w' ⟨v, r, j, H, h1, h2, h3, h4, h5, h6, h7, r0, rfl, h8⟩
  simp only [VRel, LRel] at h4
  obtain ⟨vs, rfl, x, rest, rfl, hx, y, rest', rfl, rfl, rfl⟩ := h4
  obtain ⟨j', r', v', o'⟩ := mat_rel h8 h3 hx
  refine ⟨_, _, j', _, h1, h2, r', ?_, fun k hk => h5 k (o' k hk), by simp [noRow, noRowL], mat_nr h8.vals, rfl, rfl⟩
  simp only [VRel, LRel]
  exact ⟨_, rfl, _, _, rfl, by simpa only [VRel] using v', _, _, rfl, rfl, rfl⟩
end
theorem vals_take {P : List (List UInt8)} {k : Nat} {n : Int} (h : k < P.length) (hn : pint (P.getD k []) = some n) : ints (vals (P.take k)) ++ [.val (.int .i64 n)] = ints (vals (P.take (k + 1))) := by
  have e : vals (P.take (k + 1)) = vals (P.take k) ++ [n] := by rw [takeS_succ h, vals, List.map_append, List.map_cons, List.map_nil, hn]; rfl
  rw [e]; simp [ints]
theorem valsT_length {P : List (List UInt8)} {k : Nat} (h : k ≤ P.length) : (vals (P.take k)).length = k := by rw [vals_length, List.length_take]; omega
def PIR (P : List (List UInt8)) (r : SV) (H : Heap) : Prop :=
  ((∀ p ∈ P, ∃ n, pint p = some n) ∧ ∃ r0, r = .tup [r0, .val (.bool true)] ∧ FlatRes P.length 1 (ints (vals P)) r0 H) ∨ ((∃ p ∈ P, pint p = none) ∧ r = .tup [.val (.slice none 0 0), .val (.bool false)])
theorem fin_pirT {P : List (List UInt8)} {b n cap : Nat} {ex e2 : Bool} {H : Heap} (h : ∀ p ∈ P, ∃ n, pint p = some n) (hn : n = P.length) (hb : H.map b = some ⟨ints (vals P), e2⟩) : Fin (PIR P) (.tup [.own b 0 n cap 1 ex, .val (.bool true)]) H := by
  subst hn
  obtain ⟨H2, h1, h2, h3, h4⟩ := fin_ints (n := P.length) (cap := cap) (ex := ex) (vals_length P).symm hb
  exact ⟨H2, h1, by simp [noRow, noRowL], h3, .inl ⟨h, _, rfl, h4⟩⟩
theorem fin_pirF {P : List (List UInt8)} {H : Heap} (h : ∃ p ∈ P, pint p = none) : Fin (PIR P) (.tup [.val (.slice none 0 0), .val (.bool false)]) H := fin_val2 (.inr ⟨h, rfl⟩)
set_option maxHeartbeats 4000000 in
theorem Tryz.parseInts_f (P : List (List UInt8)) (h0 : 0 < P.length) (hP : P.length ≤ 1048577) (hg : ∀ i, i < P.length → (P.getD i []).length ≤ 1048576) : FCall Tryz.prog 75 [rst P] (PIR P) := by
  refine FCall.of_body Tryz.func75 rfl (by kernel_rfl) (by simp [Tryz.ntmps75]) ?_
  refine SW_of_vc Tryz.mixed _ _ _ (by kernel_rfl) ?_
  simp (disch := omega) only [go_sem, rst]
  refine LoopW.loop (fun p : Nat × Nat × Nat => ⟨ofL [(4, nlI p.2.1 (vals (P.take p.1))), (9, rst P), (10, .val (.int .i64 P.length)), (11, .val (.int .i64 p.1))], hp (nlH p.2.1 (vals (P.take p.1))) p.2.2⟩)
    (fun p => p.1 ≤ P.length ∧ (p.1 ≠ 0 → p.2.1 < p.2.2) ∧ ∀ j, j < p.1 → ∃ n, pint (P.getD j []) = some n) (fun p => P.length - p.1) (0, 0, 0) ⟨by simp, fun h => absurd rfl h, fun j hj => by simp at hj⟩ (Wk.ofH (by simp only [go_sem, ↓List.forall_mem_cons, List.not_mem_nil, false_implies, implies_true, and_true, true_and, and_self, ri_eq, Int.natCast_add, Int.cast_ofNat_Int, rst, List.take_zero, nlI_t (T := vals []) rfl]; try simp) (by simp [nlH, vals]) (by simp [hp])) ?_
  rintro ⟨k, ob, nb⟩ ⟨hk, hob, hall⟩
  simp only at hk hob hall
  have hrl := valsT_length hk
  refine SW_of_vc Tryz.mixed _ _ _ (by kernel_rfl) ?_
  by_cases hlt : k < P.length
  · have hgk := zn hlt
    have w := Tryz.implPI_ok (P.getD k []) (hg k hlt)
    have hl2 := valsT_length (P := P) (k := k + 1) hlt
    have e2 : ∀ b, nlI b (vals (P.take (k + 1))) = .own b 0 (k + 1) (k + 1) 1 false := fun b => by rw [nlI_f (by omega), hl2]
    have e3 : ∀ b, nlH b (vals (P.take (k + 1))) = [(b, ⟨ints (vals (P.take (k + 1))), false⟩)] := fun b => nlH_f (by omega)
    cases hp : pint (P.getD k []) with
    | none =>
      have hbad : ∃ p ∈ P, pint p = none := ⟨P.getD k [], by simp [List.getD, hlt], hp⟩
      rw [pIR, hp] at w
      simp (disch := omega) only [go_sem, rst, hgk]
      refine w.callV 0 (z6 zd z7) ?_
      simp (disch := omega) only [go_sem, rst, hgk, Option.getD_none, Option.isSome_none]
      exact fin_pirF hbad
    | some n =>
      have hsn := vals_take hlt hp
      have hall2 : ∀ j, j < k + 1 → ∃ n, pint (P.getD j []) = some n := fun j hj => by
        rcases Nat.lt_succ_iff_lt_or_eq.1 hj with h | rfl
        · exact hall j h
        · exact ⟨n, hp⟩
      rw [pIR, hp] at w
      by_cases hz : k = 0
      · have e0 := nlI_t (b := ob) (T := vals (P.take k)) (by omega)
        have h0 := nlH_t (b := ob) (T := vals (P.take k)) (by omega)
        have hsn0 : [SV.val (.int .i64 n)] = ints (vals (P.take (k + 1))) := by rw [← hsn, List.length_eq_zero_iff.1 (by omega : (vals (P.take k)).length = 0)]; rfl
        have e2z : ∀ b, nlI b (vals (P.take (k + 1))) = .own b 0 1 1 1 false := fun b => by
          have hk1 : k + 1 = 1 := by omega
          rw [e2, hk1]
        simp (disch := omega) only [go_sem, rst, hgk, e0, h0]
        refine w.callV 0 (z6 zd z7) ?_
        simp (disch := omega) only [go_sem, rst, hgk, e0, h0, Option.getD_some, Option.isSome_some]
        refine ⟨(k + 1, nb + 1, nb + 1 + 1), ⟨hlt, fun _ => by show nb + 1 < nb + 1 + 1; omega, hall2⟩, by show P.length - (k + 1) < P.length - k; omega, Wk.ofH (by simp only [go_sem, ↓List.forall_mem_cons, List.not_mem_nil, false_implies, implies_true, and_true, true_and, and_self, ri_eq, Int.natCast_add, Int.cast_ofNat_Int, rst, e2z]; try simp) ?_ (Nat.le_refl _)⟩
        show ∀ q ∈ nlH (nb + 1) (vals (P.take (k + 1))), _
        refine nlH_in fun _ => ?_
        rw [← hsn0]; simp (disch := omega) only [hp_map, zm, if_pos, if_neg, ↓reduceIte]
      · have o2 := hob hz
        have e0 := nlI_f (b := ob) (T := vals (P.take k)) (by omega)
        have h0 := nlH_f (b := ob) (T := vals (P.take k)) (by omega)
        rw [hrl] at e0
        have hil : (ints (vals (P.take k))).length = k := by rw [zh, hrl]
        have hit : (ints (vals (P.take k))).take k = ints (vals (P.take k)) := List.take_of_length_le (by omega)
        simp (disch := omega) only [go_sem, rst, hgk, e0, h0, hil, hit, hsn]
        refine w.callV 0 (z6 zd z7) ?_
        simp (disch := omega) only [go_sem, rst, hgk, e0, h0, hil, hit, hsn, Option.getD_some, Option.isSome_some]
        refine ⟨(k + 1, nb + 1, nb + 1 + 1), ⟨hlt, fun _ => by show nb + 1 < nb + 1 + 1; omega, hall2⟩, by show P.length - (k + 1) < P.length - k; omega, Wk.ofH (by simp only [go_sem, ↓List.forall_mem_cons, List.not_mem_nil, false_implies, implies_true, and_true, true_and, and_self, ri_eq, Int.natCast_add, Int.cast_ofNat_Int, rst, e2]; try simp) ?_ (Nat.le_refl _)⟩
        show ∀ q ∈ nlH (nb + 1) (vals (P.take (k + 1))), _
        refine nlH_in fun _ => ?_
        simp (disch := omega) only [hp_map, zm, if_pos, if_neg, ↓reduceIte]
  · obtain rfl : k = P.length := by omega
    have hallp : ∀ p ∈ P, ∃ n, pint p = some n := fun p hp => by
      obtain ⟨j, hj, rfl⟩ := List.getElem_of_mem hp
      obtain ⟨n, hn⟩ := hall j hj
      exact ⟨n, by simpa [List.getD, hj] using hn⟩
    rw [List.take_length] at hrl
    have o2 := hob (by omega)
    have e0 := nlI_f (b := ob) (T := vals P) (by omega)
    have h0 := nlH_f (b := ob) (T := vals P) (by omega)
    rw [hrl] at e0
    simp (disch := omega) only [go_sem, rst, List.take_length, e0, h0]
    exact fin_pirT (e2 := false) hallp rfl (by first | rfl | (simp (disch := omega) only [hx_map, hp_map, zl, zm, zk, xmap_nil, if_pos, if_neg, ↓reduceIte]; try rfl))
theorem Tryz.parseInts_t (P : List (List UInt8)) (h0 : 0 < P.length) (hP : P.length ≤ 1048577) (hg : ∀ i, i < P.length → (P.getD i []).length ≤ 1048576) (h : ∀ p ∈ P, ∃ n, pint p = some n) : FCall Tryz.prog 75 [rst P] (fun r H => r = .tup [.own 0 0 P.length P.length 1 false, .val (.bool true)] ∧ H = Heap.one ⟨ints (vals P), false⟩) :=
  ((Tryz.parseInts_f P h0 hP hg).mono (R' := fun r H => ∃ r0, r = .tup [r0, .val (.bool true)] ∧ FlatRes P.length 1 (ints (vals P)) r0 H) (fun r H hr => by
    rcases hr with ⟨_, r0, h2, h3⟩ | ⟨⟨p, hp, hpn⟩, _⟩
    · exact ⟨r0, h2, h3⟩
    · obtain ⟨n, hn⟩ := h p hp
      rw [hpn] at hn; cases hn)).oneT
theorem Tryz.parseInts_n (P : List (List UInt8)) (h0 : 0 < P.length) (hP : P.length ≤ 1048577) (hg : ∀ i, i < P.length → (P.getD i []).length ≤ 1048576) (h : ¬ ∀ p ∈ P, ∃ n, pint p = some n) : FCall Tryz.prog 75 [rst P] (fun r _ => r = .tup ([Value.slice none 0 0, .bool false].map .val)) :=
  (Tryz.parseInts_f P h0 hP hg).mono (fun r H hr => by
    rcases hr with ⟨h1, _⟩ | ⟨_, h2⟩
    · exact absurd h1 h
    · rw [h2]; rfl)
def PMR (s : List UInt8) (r : SV) (H : Heap) : Prop :=
  match pm s with
  | some M => ∃ r0, r = .tup [r0, .val (.bool true)] ∧ MatRes (mi M) r0 H
  | none => r = .tup [.val (.slice none 0 0), .val (.bool false)]
theorem fin_pmT {s : List UInt8} {M : List (List Int)} {b n cap : Nat} {ex : Bool} {H : Heap} (hp : pm s = some M) (h : EntIn H (.mat b (mi M))) (hn : n = M.length) : Fin (PMR s) (.tup [.own b 0 n cap 1 ex, .val (.bool true)]) H := by
  obtain ⟨H2, h1, h2, h3, h4⟩ := fin_mat (n := n) (cap := cap) (ex := ex) h (mi_vals M) (by rw [zo, hn])
  exact ⟨H2, h1, by simp [noRow, noRowL], h3, by rw [PMR, hp]; exact ⟨_, rfl, h4⟩⟩
theorem fin_pmF {s : List UInt8} {H : Heap} (hp : pm s = none) : Fin (PMR s) (.tup [.val (.slice none 0 0), .val (.bool false)]) H := fin_val2 (by rw [PMR, hp])
theorem pm_bad2 {s : List UInt8} (h : ¬ ∀ p ∈ cutL 32 s, ∃ n, pint p = some n) : pm s = none := by
  cases hp : pm s with
  | none => rfl
  | some M => exact absurd (pm_all hp) h
set_option maxRecDepth 20000 in
set_option maxHeartbeats 8000000 in
theorem Tryz.implPM_f (s : List UInt8) (hs : s.length ≤ 1048576) : FCall Tryz.prog 29 [str s] (PMR s) := by
  have wc := Tryz.split_ok s 32 hs
  have hpos := cutL_pos 32 s
  have hpart := cutL_part 32 s
  have hb1 := @pm_bad1 s
  have hb2 := @pm_bad2 s
  have heq := @pm_eq s
  have hvl := vals_length (cutL 32 s)
  have hcl := cutL_len 32 s
  have hcc : s.count 32 ≤ s.length := List.count_le_length
  refine FCall.of_body Tryz.func29 rfl (by kernel_rfl) (by simp [Tryz.ntmps29]) ?_
  refine SW_of_vc Tryz.mixed _ _ _ (by kernel_rfl) ?_
  generalize hP : cutL 32 s = P at *
  have hg : ∀ i, i < P.length → (P.getD i []).length ≤ 1048576 := fun i hi => by
    have := hpart (P.getD i []) (by simp [List.getD, hi])
    omega
  by_cases hall : ∀ p ∈ P, ∃ n, pint p = some n
  case neg =>
    have hp := hb2 hall
    have wp := Tryz.parseInts_n P hpos (by omega) hg hall
    simp (disch := omega) only [go_sem]
    refine wc.callV 0 (z6 zd (z6 zd z7)) ?_
    simp (disch := omega) only [go_sem, rst]
    refine wp.callTup 0 (z6 (zf) z7) ?_
    simp (disch := omega) only [go_sem, List.map_cons, List.map_nil]
    exact fin_pmF hp
  have wp := Tryz.parseInts_t P hpos (by omega) hg hall
  have gv := fun i (h : i < P.length) => ints_get (L := vals P) (k := i) (by omega)
  have g0 := gv 0 hpos
  have hil : (ints (vals P)).length = P.length := by rw [zh, hvl]
  have wi := Tryz.within_ok ((vals P).getD 0 0) 1 8
  generalize hn0 : (vals P).getD 0 0 = z at *
  by_cases hz : 1 ≤ z ∧ z ≤ 8
  case neg =>
    have hp := hb1 hz
    have e : inR z 1 8 = false := by
      cases h : inR z 1 8 with
      | false => rfl
      | true => exact absurd (inR_of h) hz
    rw [e] at wi
    simp (disch := omega) only [go_sem]
    refine wc.callV 0 (z6 zd (z6 zd z7)) ?_
    simp (disch := omega) only [go_sem, rst]
    refine wp.callOneT (ints_vals _) 0 (z6 (zf) z7) ?_
    simp (disch := omega) only [go_sem, hil, g0]
    refine wi.callDV 0 (z6 (z8) (z6 (z8) (z6 (z8) z7))) ?_
    simp (disch := omega) only [go_sem, hil, g0]
    exact fin_pmF hp
  obtain ⟨n, rfl⟩ := Int.eq_ofNat_of_zero_le (a := z) (by omega)
  have h1 : 1 ≤ n := by omega
  have h8 : n ≤ 8 := by omega
  have heq := heq rfl h1 h8
  have hq := off_all h1 h8
  have ho1 : off n n ≤ 28 := by
    have : n = 1 ∨ n = 2 ∨ n = 3 ∨ n = 4 ∨ n = 5 ∨ n = 6 ∨ n = 7 ∨ n = 8 := by omega
    rcases this with rfl | rfl | rfl | rfl | rfl | rfl | rfl | rfl <;> decide
  have hlt2 := fun i k (a : i < k) (b : k < n) => pos_lt a b
  generalize hO : off n n = O at *
  have htd : Int.tdiv (2 * (O : Int)) 2 = O := Int.mul_tdiv_cancel_left _ (by decide)
  rw [inR_tt hz.1 hz.2] at wi
  by_cases hlen : P.length = 1 + O
  case neg =>
    have hp : pm s = none := by rw [heq, if_neg (fun h => hlen h.1)]
    simp (disch := omega) only [go_sem]
    refine wc.callV 0 (z6 zd (z6 zd z7)) ?_
    simp (disch := omega) only [go_sem, rst]
    refine wp.callOneT (ints_vals _) 0 (z6 (zf) z7) ?_
    simp (disch := omega) only [go_sem, hil, g0, hq, htd]
    refine wi.callDV 0 (z6 (z8) (z6 (z8) (z6 (z8) z7))) ?_
    simp (disch := omega) only [go_sem, hil, g0, hq, htd]
    exact fin_pmF hp
  have hpa : ∀ i k, i < k → k < n → pa n i k < P.length := fun i k a b => by have := hlt2 i k a b; rw [pa]; omega
  have hpl : ∀ i k, i < k → k < n → (vals P).getD (pa n i k) 0 = (vals P).tail.getD (pos n i k) 0 := fun i k _ _ => by
    rw [pa, List.getD_eq_getElem?_getD, List.getD_eq_getElem?_getD, List.getElem?_tail, Nat.add_comm]
  generalize hl : (vals P).tail = l at *
  simp (disch := omega) only [go_sem]
  refine wc.callV 0 (z6 zd (z6 zd z7)) ?_
  simp (disch := omega) only [go_sem, rst]
  refine wp.callOneT (ints_vals _) 0 (z6 (zf) z7) ?_
  simp (disch := omega) only [go_sem, hil, g0, hq, htd]
  refine wi.callDV 0 (z6 (z8) (z6 (z8) (z6 (z8) z7))) ?_
  simp (disch := omega) only [go_sem, hil, g0, hq, htd]
  refine (Tryz.square_one n (by omega)).callMat (mi_vals _) 0 (z6 (z8) z7) ?_
  simp (disch := omega) only [go_sem, hil, g0, hq, htd, zs_length]
  refine LoopW.loop (fun y : Nat × List (List Int) × Nat => ⟨ofL [(0, str s), (4, .own 0 (pa n y.1 (y.1 + 1)) (P.length - pa n y.1 (y.1 + 1)) (P.length - pa n y.1 (y.1 + 1)) 1 false), (6, .own 1 0 n n 1 false), (46, .val (.int .i64 n)), (47, .val (.int .i64 y.1))], hx [.mat 1 (mi y.2.1), .blk 0 ⟨ints (vals P), false⟩] y.2.2⟩)
    (fun y => y.1 ≤ n ∧ PMs n l y.2.1 y.1 (y.1 + 1) ∧ n + 1 < y.2.2) (fun y => n - y.1) (0, zs n, 1 + n + 1) ⟨by simp, .zero n l, by simp only; omega⟩
    (Wk.ofX (by simp only [go_sem, ↓List.forall_mem_cons, List.not_mem_nil, false_implies, implies_true, and_true, true_and, and_self, ri_eq, Int.natCast_add, Int.cast_ofNat_Int, rst, pa_zero, Bool.or_self]; try simp) (by simp only [List.forall_mem_cons]; exact ⟨.self, by simp (disch := omega) only [EntIn, hx_map, zk, zl, if_pos, ↓reduceIte], by simp⟩) (Nat.le_refl _)) ?_
  rintro ⟨i, X, nb⟩ ⟨hi, hX, hnb⟩
  simp only at hi hX hnb
  have hXl := hX.1.1
  refine SW_of_vc Tryz.mixed _ _ _ (by kernel_rfl) ?_
  by_cases hlt : i < n
  · simp (disch := omega) only [go_sem]
    refine LoopW.loop (fun y : Nat × List (List Int) × Nat => ⟨ofL [(0, str s), (4, .own 0 (pa n i y.1) (P.length - pa n i y.1) (P.length - pa n i y.1) 1 false), (6, .own 1 0 n n 1 false), (7, .val (.int .i64 i)), (8, .val (.int .i64 y.1)), (46, .val (.int .i64 n)), (47, .val (.int .i64 i))], hx [.mat 1 (mi y.2.1), .blk 0 ⟨ints (vals P), false⟩] y.2.2⟩)
      (fun y => i < y.1 ∧ y.1 ≤ n ∧ PMs n l y.2.1 i y.1 ∧ n + 1 < y.2.2) (fun y => n - y.1) (i + 1, X, nb) ⟨by simp, by show i + 1 ≤ n; omega, hX, hnb⟩
      (Wk.ofX (by simp only [go_sem, ↓List.forall_mem_cons, List.not_mem_nil, false_implies, implies_true, and_true, true_and, and_self, ri_eq, Int.natCast_add, Int.cast_ofNat_Int]; try simp) (by simp only [List.forall_mem_cons]; exact ⟨.self, by simp (disch := omega) only [EntIn, hx_map, zk, zl, if_pos, ↓reduceIte], by simp⟩) (Nat.le_refl _)) ?_
    clear hX hnb hXl
    rintro ⟨j, X, nb⟩ ⟨hij, hj, hX, hnb⟩
    simp only at hij hj hX hnb
    have hXl := hX.1.1
    refine SW_of_vc Tryz.mixed _ _ _ (by kernel_rfl) ?_
    by_cases hltj : j < n
    · have ha := hpa i j hij hltj
      have hsu := pa_succ (n := n) hij
      have ga := gv (pa n i j) ha
      rw [hpl i j hij hltj] at ga
      have hX2 := hX.put hij hltj (x := l.getD (pos n i j) 0) rfl
      generalize l.getD (pos n i j) 0 = v at *
      generalize hag : pa n i j = a at *
      have r1 := hX.1.2 i (by omega)
      have r2 := hX.1.2 j (by omega)
      have l2 : (mset X i j v).length = n := by rw [mset_length, hXl]
      have r3 : (mrow (mset X i j v) j).length = n := by rw [mset_row_length, r2]
      simp (disch := omega) only [go_sem, hil, ga, outerB_getI, zk, xmap_rowI, xset_rowI, xset_skipI, r1, r2, r3, hXl, l2]
      exact ⟨(j + 1, mset (mset X i j v) j i v, nb), ⟨by show i < j + 1; omega, hltj, hX2, hnb⟩, by show n - (j + 1) < n - j; omega, Wk.ofX (by simp only [go_sem, ↓List.forall_mem_cons, List.not_mem_nil, false_implies, implies_true, and_true, true_and, and_self, ri_eq, Int.natCast_add, Int.cast_ofNat_Int, hsu, Nat.sub_sub, Bool.or_self]; try simp) (by simp only [List.forall_mem_cons]; exact ⟨.self, by simp (disch := omega) only [EntIn, hx_map, zk, zl, if_pos, ↓reduceIte], by simp⟩) (Nat.le_refl _)⟩
    · obtain rfl : j = n := by omega
      have hpr := pa_row hlt
      simp (disch := omega) only [go_sem]
      exact ⟨(i + 1, X, nb), ⟨hlt, hX.row (.inl rfl), hnb⟩, by show j - (i + 1) < j - i; omega, Wk.ofX (by simp only [go_sem, ↓List.forall_mem_cons, List.not_mem_nil, false_implies, implies_true, and_true, true_and, and_self, ri_eq, Int.natCast_add, Int.cast_ofNat_Int, hpr]; try simp) (by simp only [List.forall_mem_cons]; exact ⟨.self, by simp (disch := omega) only [EntIn, hx_map, zk, zl, if_pos, ↓reduceIte], by simp⟩) (Nat.le_refl _)⟩
  · obtain rfl : i = n := by omega
    have hXX := hX.all
    have wF := Tryz.implFM_ok X (by omega) (fun q hq => by rw [hX.1.2 q (by omega)]; omega)
    by_cases hf : fmtM X = s
    · have hp : pm s = some X := by rw [heq, if_pos ⟨hlen, by rw [← hXX]; exact hf⟩, ← hXX]
      have hf1 : (fmtM X == s) = true := by rw [hf]; exact beq_self_eq_true s
      simp (disch := omega) only [go_sem]
      refine wF.callV 2 (z6 (view_mi (M := X) .self hXl.symm) z7) ?_
      simp (disch := omega) only [go_sem, hf1, Bool.not_true]
      exact fin_pmT hp .self hXl.symm
    · have hp : pm s = none := by rw [heq, if_neg (fun h => hf (by rw [hXX]; exact h.2))]
      have hf1 : (fmtM X == s) = false := by rw [beq_eq_false_iff_ne]; exact hf
      simp (disch := omega) only [go_sem]
      refine wF.callV 2 (z6 (view_mi (M := X) .self hXl.symm) z7) ?_
      simp (disch := omega) only [go_sem, hf1, Bool.not_false]
      exact fin_pmF hp
end Go.Sh

/-
  A matrix read back from its own text.
-/
namespace Go.Sh
open Go Go.Proofs

theorem fmtM_le (X : List (List Int)) : (fmtM X).length ≤ 1048576 := by
  rcases isWM_cases X with ⟨hw, he⟩ | he
  · rw [fmtM, he, if_pos rfl]
    obtain ⟨h1, h2⟩ := up_it hw _ (Nat.le_refl _)
    have := txt_le h1
    have := hw.1
    omega
  · rw [fmtM, he]; simp
theorem pm_nil : pm [] = none := by
  refine pm_bad1 (fun h => ?_)
  rw [cutL_nil] at h
  simp [vals, pint_nil] at h
theorem pm_nWM {X : List (List Int)} (h : ¬ WM X) : pm (fmtM X) = none := by
  have : fmtM X = [] := by rw [fmtM, isWM_f h]; rfl
  rw [this, pm_nil]
theorem Tryz.implPMx_t (X : List (List Int)) (h : WM X) : PCall Tryz.prog 29 [str (fmtM X)] (.tup [rr X, .val (.bool true)]) := by
  have hp := pm_fmt h
  have wT : FCall Tryz.prog 29 [str (fmtM X)] (fun r H => r = .tup [.own 0 0 (mi X).length (mi X).length 1 false, .val (.bool true)] ∧ H = hx [.mat 0 (mi X)] ((mi X).length + 1)) :=
    ((Tryz.implPM_f (fmtM X) (fmtM_le X)).mono (R' := fun r H => ∃ r0, r = .tup [r0, .val (.bool true)] ∧ MatRes (mi X) r0 H) (fun r H hr => by rw [PMR, hp] at hr; exact hr)).matT
  exact wT.pcall 3 (fun r H ⟨h1, h2⟩ => by
    subst h1; subst h2
    have h3 : viewL (hx [.mat 0 (mi X)] ((mi X).length + 1)) 2 [.own 0 0 (mi X).length (mi X).length 1 false, .val (.bool true)] = some [rr X, .val (.bool true)] := z6 (view_mi (M := X) .self (zo X)) (z6 zg z7)
    simp only [view, h3])
theorem Tryz.implPMx_f (X : List (List Int)) (h : ¬ WM X) : PCall Tryz.prog 29 [str (fmtM X)] (.tup [rr [], .val (.bool false)]) := by
  have hp := pm_nWM h
  have wN : FCall Tryz.prog 29 [str (fmtM X)] (fun r _ => r = .tup ([Value.slice none 0 0, .bool false].map .val)) :=
    (Tryz.implPM_f (fmtM X) (fmtM_le X)).mono (fun r H hr => by rw [PMR, hp] at hr; rw [hr]; rfl)
  refine wN.pcall 3 ?_
  rintro r H rfl
  have h1 : viewL H 2 [.val (.slice none 0 0), .val (.bool false)] = some [rr [], .val (.bool false)] := z6 view_nilM (z6 zg z7)
  simp only [List.map_cons, List.map_nil, view, h1]
end Go.Sh

/-
  Contracts: links, labels by rounds, the components of a graph of positive weights. Of the reference.
-/
namespace Go.Sh
open Go Go.Proofs

def nrF (n : Nat) (l : List Nat) : List (Nat × List SV) := l.map fun x => (x, bools (List.replicate n false))
def bz (n : Nat) : List (List Bool) := List.replicate n (List.replicate n false)
theorem bz_length (n : Nat) : (bz n).length = n := by simp [bz]
theorem bz_row {n i : Nat} (h : i < n) : brow (bz n) i = List.replicate n false := by simp [bz, brow, h]
theorem nrF_length (n : Nat) (l : List Nat) : (nrF n l).length = l.length := by simp [nrF]
theorem nrF_snd (n : Nat) : ∀ l : List Nat, (nrF n l).map (·.2) = List.replicate l.length (bools (List.replicate n false))
  | [] => rfl
  | x :: l => by
    have := nrF_snd n l
    simp only [nrF, List.map_cons, List.length_cons, List.replicate_succ] at this ⊢
    rw [this]
theorem nrF_snoc (n : Nat) (l : List Nat) (x : Nat) : nrF n (l ++ [x]) = nrF n l ++ [(x, bools (List.replicate n false))] := by simp [nrF]

set_option maxHeartbeats 1000000 in
theorem Tryz.l17Links_f (n : Nat) (hn : n ≤ 1048576) : FCall Tryz.prog 78 [.val (.int .i64 n)] (MatRes (mb (bz n))) := by
  refine FCall.of_body Tryz.func78 rfl (by kernel_rfl) (by simp [Tryz.ntmps78]) ?_
  refine SW_of_vc Tryz.mixed _ _ _ (by kernel_rfl) ?_
  simp (disch := omega) only [go_sem]
  refine LoopW.loop (fun p : List Nat × Nat × Nat => ⟨ofL [(0, .val (.int .i64 n)), (3, .own p.2.1 0 p.1.length p.1.length 1 false), (4, .val (.int .i64 p.1.length))], hx [.blk p.2.1 ⟨outerN true (nrF n p.1), false⟩, .rows true (nrF n p.1)] p.2.2⟩)
    (fun p => p.1.length ≤ n ∧ NrOk p.2.1 p.2.2 (nrF n p.1)) (fun p => n - p.1.length) ([], 0, 1) ⟨by simp, .nil (by simp)⟩ (Wk.ofX (by simp only [go_sem, ↓List.forall_mem_cons, List.not_mem_nil, false_implies, implies_true, and_true, true_and, and_self, ri_eq, Int.natCast_add, Int.cast_ofNat_Int]; try simp) (by simp [EntIn, nrF, outerN, hp, hmap]) (by simp [hp])) ?_
  rintro ⟨l, ob, nb⟩ ⟨hk, ho⟩
  simp only at hk ho
  have hob := ho.1
  refine SW_of_vc Tryz.mixed _ _ _ (by kernel_rfl) ?_
  have hl1 := outerN_length true (nrF n l)
  have hl2 := nrF_length n l
  have hl3 : (outerN true (nrF n l)).take l.length = outerN true (nrF n l) := List.take_of_length_le (by omega)
  by_cases hlt : l.length < n
  · simp (disch := omega) only [go_sem, hl1, hl2, hl3]
    have hlt' : ∀ p ∈ nrF n l, p.1 < nb := fun p hp => (ho.2.1 p hp).1
    have hne : ∀ p ∈ nrF n l, p.1 ≠ ob := fun p hp => (ho.2.1 p hp).2
    refine ⟨(l ++ [nb], nb + 1 + 1, nb + 1 + 1 + 1), ⟨by simp; omega, ?_⟩, by simp; omega, Wk.ofX (by simp only [go_sem, ↓List.forall_mem_cons, List.not_mem_nil, false_implies, implies_true, and_true, true_and, and_self, ri_eq, Int.natCast_add, Int.cast_ofNat_Int, List.length_append, List.length_singleton]; try simp) ?_ (by simp [hx])⟩
    · rw [nrF_snoc]
      exact ho.snoc (Nat.le_refl _) (by show nb ≤ nb + 1 + 1; omega) (by show nb ≠ nb + 1 + 1; omega) (by show nb < nb + 1 + 1 + 1; omega) (by show nb + 1 + 1 < nb + 1 + 1 + 1; omega)
    · simp only [List.forall_mem_cons]
      refine ⟨?_, ?_, by simp⟩
      · simp only [EntIn, hx_map, zl, if_pos, nrF_snoc, outerN_snoc, bools_length, List.length_replicate]
      · simp only [nrF_snoc]
        refine EntIn.snoc (((EntIn.skipC (EntIn.selfR ho.2.2) hne).skipR ?_).skipR ?_ |>.skipR ?_) ?_
        · intro p hp; have := hlt' p hp; omega
        · intro p hp; have := hlt' p hp; omega
        · intro p hp; have := hlt' p hp; omega
        · simp only [hx_map, zl]; rw [if_neg (by omega), if_neg (by omega), if_pos trivial, bools_replicate]
  · simp (disch := omega) only [go_sem, hl1, hl2, hl3]
    have hk : l.length = n := by omega
    have := fin_rows (H := hx [Ent.blk ob { cells := outerN true (nrF n l), ex := false }, Ent.rows true (nrF n l)] nb) (R := mb (bz n)) ho
      (fun p hp => by obtain ⟨x, _, rfl⟩ := List.mem_map.1 hp; exact bools_vals _) (by simp [hx, xmap])
      (EntIn.skipR (EntIn.selfR ho.2.2) (fun p hp => (ho.2.1 p hp).2)) (by rw [nrF_snd, hk]; simp [mb, bz])
    rw [nrF_length] at this
    exact this
theorem Tryz.l17Links_one (n : Nat) (hn : n ≤ 1048576) : FCall Tryz.prog 78 [.val (.int .i64 n)] (MatOne (mb (bz n))) := (Tryz.l17Links_f n hn).mat

theorem rep_snoc (k : Nat) (a : Int) : List.replicate k a ++ [a] = List.replicate (k + 1) a := by
  rw [List.replicate_succ']
set_option maxHeartbeats 4000000 in
theorem Tryz.l17Labels_f (n : Nat) (X : List (List Bool)) (hn : n ≤ 1048576) (hX : X.length = n) (hR : ∀ i, i < n → (brow X i).length = n) (hs : ∀ x y, x < n → y < n → bmat X x y = true → bmat X y x = true) :
    FCall Tryz.prog 79 [.val (.int .i64 n), rb X] (fun r H => CompL n (bmat X) (comp n (bmat X)) ∧ FlatRes n 1 (ints (comp n (bmat X))) r H) := by
  refine FCall.of_body Tryz.func79 rfl (by kernel_rfl) (by simp [Tryz.ntmps79]) ?_
  refine SW_of_vc Tryz.mixed _ _ _ (by kernel_rfl) ?_
  simp (disch := omega) only [go_sem, rb_eq]
  refine LoopW.loop (fun p : Nat × Nat × Nat => ⟨ofL [(0, .val (.int .i64 n)), (1, rb X), (5, .own p.2.1 0 p.1 p.1 1 false), (6, .val (.int .i64 p.1))], hp [(p.2.1, ⟨ints (List.replicate p.1 (-1)), false⟩)] p.2.2⟩) (fun p => p.1 ≤ n ∧ p.2.1 < p.2.2) (fun p => n - p.1) (0, 0, 1) ⟨by simp, by simp⟩
    (Wk.ofH (by simp only [go_sem, ↓List.forall_mem_cons, List.not_mem_nil, false_implies, implies_true, and_true, true_and, and_self, ri_eq, Int.natCast_add, Int.cast_ofNat_Int, rb_eq]; try simp) (by simp (disch := omega) only [go_sem, ↓List.forall_mem_cons, List.not_mem_nil, false_implies, implies_true, and_true, true_and, and_self, ri_eq, Int.natCast_add, Int.cast_ofNat_Int, if_pos, if_neg, Nat.reduceAdd, List.nil_append, List.replicate_zero, ints_nil]; try simp) (by simp [hp])) ?_
  rintro ⟨k, b, nb⟩ ⟨hk, hb⟩
  simp only at hk hb
  refine SW_of_vc Tryz.mixed _ _ _ (by kernel_rfl) ?_
  by_cases hlt : k < n
  · have hl := rep_snoc k (-1)
    have ht : (ints (List.replicate k (-1))).take k = ints (List.replicate k (-1)) := ints_take_of (by simp)
    simp (disch := omega) only [go_sem, rb_eq, List.length_replicate, ht]
    refine ⟨(k + 1, nb + 1, nb + 1 + 1), ⟨hlt, by simp⟩, by show n - (k + 1) < n - k; omega, ?_⟩
    exact Wk.ofH (by simp only [go_sem, ↓List.forall_mem_cons, List.not_mem_nil, false_implies, implies_true, and_true, true_and, and_self, ri_eq, Int.natCast_add, Int.cast_ofNat_Int, rb_eq]; try simp) (by simp (disch := omega) only [go_sem, ↓List.forall_mem_cons, List.not_mem_nil, false_implies, implies_true, and_true, true_and, and_self, ri_eq, Int.natCast_add, Int.cast_ofNat_Int, if_pos, if_neg, Nat.reduceAdd, List.nil_append, hl]; try simp) (by simp [hp])
  obtain rfl : k = n := by omega
  simp (disch := omega) only [go_sem, rb_eq]
  refine LoopW.loop (fun p : Nat × List Int × Int => ⟨ofL [(0, .val (.int .i64 k)), (1, rb X), (5, .own b 0 k k 1 false), (7, .val (.int .i64 p.2.2)), (8, .val (.int .i64 p.1))], hp [(b, ⟨ints p.2.1, false⟩)] nb⟩)
    (fun p => p.1 ≤ k ∧ PartL k (bmat X) p.1 p.2.2 p.2.1) (fun p => k - p.1) (0, List.replicate k (-1), 0) ⟨by simp, .zero _ _⟩ (Wk.ofH (by simp only [go_sem, ↓List.forall_mem_cons, List.not_mem_nil, false_implies, implies_true, and_true, true_and, and_self, ri_eq, Int.natCast_add, Int.cast_ofNat_Int, rb_eq]; try simp) (by simp (disch := omega) only [go_sem, ↓List.forall_mem_cons, List.not_mem_nil, false_implies, implies_true, and_true, true_and, and_self, ri_eq, Int.natCast_add, Int.cast_ofNat_Int, if_pos, if_neg, Nat.reduceAdd, List.nil_append]; try simp) (by simp [hp])) ?_
  rintro ⟨i, O, c⟩ ⟨hi, hpl⟩
  simp only at hi hpl
  have hl := hpl.len
  have hc0 := hpl.c0
  have hci := hpl.ci
  refine SW_of_vc Tryz.mixed _ _ _ (by kernel_rfl) ?_
  by_cases hlt2 : i < k
  · have g2 : (ints O)[i]? = some (.val (.int .i64 (O.getD i 0))) := ints_get' hl hlt2
    obtain ⟨v, hv⟩ : ∃ v, O.getD i 0 = v := ⟨_, rfl⟩
    rw [hv] at g2
    by_cases h0 : 0 ≤ v
    · simp (disch := omega) only [go_sem, rb_eq, hl, g2]
      exact ⟨(i + 1, O, c), ⟨hlt2, hpl.skip (by omega)⟩, by show k - (i + 1) < k - i; omega, Wk.ofH (by simp only [go_sem, ↓List.forall_mem_cons, List.not_mem_nil, false_implies, implies_true, and_true, true_and, and_self, ri_eq, Int.natCast_add, Int.cast_ofNat_Int, rb_eq]; try simp) (by simp (disch := omega) only [go_sem, ↓List.forall_mem_cons, List.not_mem_nil, false_implies, implies_true, and_true, true_and, and_self, ri_eq, Int.natCast_add, Int.cast_ofNat_Int, if_pos, if_neg, Nat.reduceAdd, List.nil_append]; try simp) (by simp [hp])⟩
    · simp (disch := omega) only [go_sem, rb_eq, hl, g2]
      refine LoopW.loop (fun p : Nat × List Int => ⟨ofL [(0, .val (.int .i64 k)), (1, rb X), (5, .own b 0 k k 1 false), (7, .val (.int .i64 c)), (8, .val (.int .i64 i)), (9, .val (.int .i64 p.1))], hp [(b, ⟨ints p.2, false⟩)] nb⟩)
        (fun p => p.1 ≤ k ∧ SpI k (bmat X) c i O p.1 0 0 p.2) (fun p => k - p.1) (0, O.set i c) ⟨by simp, .start hl hlt2⟩ (Wk.ofH (by simp only [go_sem, ↓List.forall_mem_cons, List.not_mem_nil, false_implies, implies_true, and_true, true_and, and_self, ri_eq, Int.natCast_add, Int.cast_ofNat_Int, rb_eq]; try simp) (by simp (disch := omega) only [go_sem, ↓List.forall_mem_cons, List.not_mem_nil, false_implies, implies_true, and_true, true_and, and_self, ri_eq, Int.natCast_add, Int.cast_ofNat_Int, if_pos, if_neg, Nat.reduceAdd, List.nil_append]; try simp) (by simp [hp])) ?_
      rintro ⟨s, O1⟩ ⟨hs1, hq1⟩
      simp only at hs1 hq1
      refine SW_of_vc Tryz.mixed _ _ _ (by kernel_rfl) ?_
      by_cases hlt3 : s < k
      · simp (disch := omega) only [go_sem, rb_eq]
        refine LoopW.loop (fun p : Nat × List Int => ⟨ofL [(0, .val (.int .i64 k)), (1, rb X), (5, .own b 0 k k 1 false), (7, .val (.int .i64 c)), (8, .val (.int .i64 i)), (9, .val (.int .i64 s)), (10, .val (.int .i64 p.1))], hp [(b, ⟨ints p.2, false⟩)] nb⟩)
          (fun p => p.1 ≤ k ∧ SpI k (bmat X) c i O s p.1 0 p.2) (fun p => k - p.1) (0, O1) ⟨by simp, hq1⟩ (Wk.ofH (by simp only [go_sem, ↓List.forall_mem_cons, List.not_mem_nil, false_implies, implies_true, and_true, true_and, and_self, ri_eq, Int.natCast_add, Int.cast_ofNat_Int, rb_eq]; try simp) (by simp (disch := omega) only [go_sem, ↓List.forall_mem_cons, List.not_mem_nil, false_implies, implies_true, and_true, true_and, and_self, ri_eq, Int.natCast_add, Int.cast_ofNat_Int, if_pos, if_neg, Nat.reduceAdd, List.nil_append]; try simp) (by simp [hp])) ?_
        rintro ⟨a, O2⟩ ⟨ha1, hq2⟩
        simp only at ha1 hq2
        refine SW_of_vc Tryz.mixed _ _ _ (by kernel_rfl) ?_
        by_cases hlt4 : a < k
        · simp (disch := omega) only [go_sem, rb_eq]
          refine LoopW.loop (fun p : Nat × List Int => ⟨ofL [(0, .val (.int .i64 k)), (1, rb X), (5, .own b 0 k k 1 false), (7, .val (.int .i64 c)), (8, .val (.int .i64 i)), (9, .val (.int .i64 s)), (10, .val (.int .i64 a)), (11, .val (.int .i64 p.1))], hp [(b, ⟨ints p.2, false⟩)] nb⟩)
            (fun p => p.1 ≤ k ∧ SpI k (bmat X) c i O s a p.1 p.2) (fun p => k - p.1) (0, O2) ⟨by simp, hq2⟩ (Wk.ofH (by simp only [go_sem, ↓List.forall_mem_cons, List.not_mem_nil, false_implies, implies_true, and_true, true_and, and_self, ri_eq, Int.natCast_add, Int.cast_ofNat_Int, rb_eq]; try simp) (by simp (disch := omega) only [go_sem, ↓List.forall_mem_cons, List.not_mem_nil, false_implies, implies_true, and_true, true_and, and_self, ri_eq, Int.natCast_add, Int.cast_ofNat_Int, if_pos, if_neg, Nat.reduceAdd, List.nil_append]; try simp) (by simp [hp])) ?_
          rintro ⟨z, O3⟩ ⟨hz1, hq3⟩
          simp only at hz1 hq3
          have hl3 := hq3.len
          have hXa := hR a hlt4
          refine SW_of_vc Tryz.mixed _ _ _ (by kernel_rfl) ?_
          by_cases hlt5 : z < k
          · have g3 : (ints O3)[a]? = some (.val (.int .i64 (O3.getD a 0))) := ints_get' hl3 hlt4
            have g4 : (bools (brow X a))[z]? = some (.val (.bool (bmat X a z))) := bools_get (by omega)
            obtain ⟨v3, hv3⟩ : ∃ v, O3.getD a 0 = v := ⟨_, rfl⟩
            rw [hv3] at g3
            by_cases h5 : v3 = c
            · rcases Bool.eq_false_or_eq_true (bmat X a z) with h6 | h6
              · rw [h6] at g4
                simp (disch := omega) only [go_sem, rb_eq, hl3, g3, g4, hX, hXa, rowsB_get, rowsB_length]
                exact ⟨(z + 1, O3.set z c), ⟨hlt5, hq3.put hpl.rng hlt4 hlt5 (by omega) h6⟩, by show k - (z + 1) < k - z; omega, Wk.ofH (by simp only [go_sem, ↓List.forall_mem_cons, List.not_mem_nil, false_implies, implies_true, and_true, true_and, and_self, ri_eq, Int.natCast_add, Int.cast_ofNat_Int, rb_eq]; try simp) (by simp (disch := omega) only [go_sem, ↓List.forall_mem_cons, List.not_mem_nil, false_implies, implies_true, and_true, true_and, and_self, ri_eq, Int.natCast_add, Int.cast_ofNat_Int, if_pos, if_neg, Nat.reduceAdd, List.nil_append]; try simp) (by simp [hp])⟩
              · rw [h6] at g4
                simp (disch := omega) only [go_sem, rb_eq, hl3, g3, g4, hX, hXa, rowsB_get, rowsB_length]
                exact ⟨(z + 1, O3), ⟨hlt5, hq3.skip hlt4 (by simp [h6])⟩, by show k - (z + 1) < k - z; omega, Wk.ofH (by simp only [go_sem, ↓List.forall_mem_cons, List.not_mem_nil, false_implies, implies_true, and_true, true_and, and_self, ri_eq, Int.natCast_add, Int.cast_ofNat_Int, rb_eq]; try simp) (by simp (disch := omega) only [go_sem, ↓List.forall_mem_cons, List.not_mem_nil, false_implies, implies_true, and_true, true_and, and_self, ri_eq, Int.natCast_add, Int.cast_ofNat_Int, if_pos, if_neg, Nat.reduceAdd, List.nil_append]; try simp) (by simp [hp])⟩
            · simp (disch := omega) only [go_sem, rb_eq, hl3, g3, hX, hXa, rowsB_get, rowsB_length]
              exact ⟨(z + 1, O3), ⟨hlt5, hq3.skip hlt4 (by intro h; omega)⟩, by show k - (z + 1) < k - z; omega, Wk.ofH (by simp only [go_sem, ↓List.forall_mem_cons, List.not_mem_nil, false_implies, implies_true, and_true, true_and, and_self, ri_eq, Int.natCast_add, Int.cast_ofNat_Int, rb_eq]; try simp) (by simp (disch := omega) only [go_sem, ↓List.forall_mem_cons, List.not_mem_nil, false_implies, implies_true, and_true, true_and, and_self, ri_eq, Int.natCast_add, Int.cast_ofNat_Int, if_pos, if_neg, Nat.reduceAdd, List.nil_append]; try simp) (by simp [hp])⟩
          · simp (disch := omega) only [go_sem, rb_eq]
            exact ⟨(a + 1, O3), ⟨hlt4, hq3.next (by omega)⟩, by show k - (a + 1) < k - a; omega, Wk.ofH (by simp only [go_sem, ↓List.forall_mem_cons, List.not_mem_nil, false_implies, implies_true, and_true, true_and, and_self, ri_eq, Int.natCast_add, Int.cast_ofNat_Int, rb_eq]; try simp) (by simp (disch := omega) only [go_sem, ↓List.forall_mem_cons, List.not_mem_nil, false_implies, implies_true, and_true, true_and, and_self, ri_eq, Int.natCast_add, Int.cast_ofNat_Int, if_pos, if_neg, Nat.reduceAdd, List.nil_append]; try simp) (by simp [hp])⟩
        · simp (disch := omega) only [go_sem, rb_eq]
          exact ⟨(s + 1, O2), ⟨hlt3, hq2.round (by omega)⟩, by show k - (s + 1) < k - s; omega, Wk.ofH (by simp only [go_sem, ↓List.forall_mem_cons, List.not_mem_nil, false_implies, implies_true, and_true, true_and, and_self, ri_eq, Int.natCast_add, Int.cast_ofNat_Int, rb_eq]; try simp) (by simp (disch := omega) only [go_sem, ↓List.forall_mem_cons, List.not_mem_nil, false_implies, implies_true, and_true, true_and, and_self, ri_eq, Int.natCast_add, Int.cast_ofNat_Int, if_pos, if_neg, Nat.reduceAdd, List.nil_append]; try simp) (by simp [hp])⟩
      · obtain rfl : s = k := by omega
        simp (disch := omega) only [go_sem, rb_eq]
        exact ⟨(i + 1, O1, c + 1), ⟨hlt2, hpl.step hs hlt2 (by omega) (hq1.newL hlt2)⟩, by show s - (i + 1) < s - i; omega, Wk.ofH (by simp only [go_sem, ↓List.forall_mem_cons, List.not_mem_nil, false_implies, implies_true, and_true, true_and, and_self, ri_eq, Int.natCast_add, Int.cast_ofNat_Int, rb_eq]; try simp) (by simp (disch := omega) only [go_sem, ↓List.forall_mem_cons, List.not_mem_nil, false_implies, implies_true, and_true, true_and, and_self, ri_eq, Int.natCast_add, Int.cast_ofNat_Int, if_pos, if_neg, Nat.reduceAdd, List.nil_append]; try simp) (by simp [hp])⟩
  · have hC := hpl.final (by omega)
    have hc2 := hC.comp
    rw [← hC.eq] at hc2 ⊢
    simp (disch := omega) only [go_sem, rb_eq]
    exact Fin.imp (fun _ _ h => ⟨hc2, h⟩) (fin_ints hl.symm (by rw [hp_map]; simp only [zm]; rfl))
end Go.Sh

/-
  Contracts: the components of a graph of positive weights, of the reference; both as one.
-/
namespace Go.Sh
open Go Go.Proofs

theorem CompL.congr {n : Nat} {B B' : Nat → Nat → Bool} {L : List Int} (h : CompL n B L) (hb : ∀ x y, x < n → y < n → B x y = B' x y) : CompL n B' L := by
  have hr : ∀ x y, Rch n B x y ↔ Rch n B' x y := fun x y => ⟨fun r => r.mono fun x y hx hy h => .one hx hy (by rw [← hb x y hx hy]; exact h), fun r => r.mono fun x y hx hy h => .one hx hy (by rw [hb x y hx hy]; exact h)⟩
  exact ⟨h.len, h.nn, h.can, fun x y hx hy => (h.iff x y hx hy).trans (hr x y)⟩
def Sq (n : Nat) (X : List (List Bool)) : Prop := X.length = n ∧ ∀ i, i < n → (brow X i).length = n
theorem Sq.bz (n : Nat) : Sq n (bz n) := ⟨bz_length n, fun i h => by rw [bz_row h]; simp⟩
theorem Sq.set {n : Nat} {X : List (List Bool)} (h : Sq n X) (i c : Nat) (x : Bool) : Sq n (bset X i c x) := ⟨by rw [bset_length, h.1], fun k hk => by rw [bset_row_length]; exact h.2 k hk⟩

set_option maxHeartbeats 4000000 in
theorem Tryz.specPC_f (M : List (List Int)) (hM : M.length ≤ 1048576) (hR : ∀ i, i < M.length → (mrow M i).length ≤ 1048576) (hw : WM M) : FCall Tryz.prog 32 [rr M] (FlatRes M.length 1 (ints (comp M.length (pB M)))) := by
  have hln := hw.1
  have w1 := Tryz.specIsWM_ok M hM hR
  rw [isWM_t hw] at w1
  refine FCall.of_body Tryz.func32 rfl (by kernel_rfl) (by simp [Tryz.ntmps32]) ?_
  refine SW_of_vc Tryz.mixed _ _ _ (by kernel_rfl) ?_
  simp (disch := omega) only [go_sem, rr_eq]
  refine w1.callV 0 (z6 (zf) z7) ?_
  simp (disch := omega) only [go_sem, rr_eq]
  refine (Tryz.l17Links_one M.length hM).callMat (mb_vals _) 0 (z6 (z8) z7) ?_
  simp (disch := omega) only [go_sem, rr_eq, bz_length]
  refine LoopW.loop (fun p : Nat × List (List Bool) => ⟨ofL [(0, rr M), (3, .own 0 0 M.length M.length 1 false), (4, .val (.int .i64 p.1))], hx [.mat 0 (mb p.2)] (M.length + 1)⟩)
    (fun p => p.1 ≤ M.length ∧ Sq M.length p.2 ∧ ∀ x y, x < p.1 → y < M.length → bmat p.2 x y = pB M x y) (fun p => M.length - p.1) (0, bz M.length) ⟨by simp, .bz _, fun x y h => by simp at h⟩
    (Wk.ofX (by simp only [go_sem, ↓List.forall_mem_cons, List.not_mem_nil, false_implies, implies_true, and_true, true_and, and_self, ri_eq, Int.natCast_add, Int.cast_ofNat_Int, rr_eq]; try simp) (by simp only [List.forall_mem_cons]; exact ⟨.self, by simp⟩) (by simp [hx])) ?_
  rintro ⟨i, X⟩ ⟨hi, hX, hXX⟩
  simp only at hi hX hXX
  refine SW_of_vc Tryz.mixed _ _ _ (by kernel_rfl) ?_
  by_cases hlt : i < M.length
  · simp (disch := omega) only [go_sem, rr_eq]
    refine LoopW.loop (fun p : Nat × List (List Bool) => ⟨ofL [(0, rr M), (3, .own 0 0 M.length M.length 1 false), (4, .val (.int .i64 i)), (5, .val (.int .i64 p.1))], hx [.mat 0 (mb p.2)] (M.length + 1)⟩)
      (fun p => p.1 ≤ M.length ∧ Sq M.length p.2 ∧ ∀ x y, (x < i ∨ (x = i ∧ y < p.1)) → y < M.length → bmat p.2 x y = pB M x y) (fun p => M.length - p.1) (0, X) ⟨by simp, hX, fun x y h => hXX x y (by simpa using h)⟩
      (Wk.ofX (by simp only [go_sem, ↓List.forall_mem_cons, List.not_mem_nil, false_implies, implies_true, and_true, true_and, and_self, ri_eq, Int.natCast_add, Int.cast_ofNat_Int, rr_eq]; try simp) (by simp only [List.forall_mem_cons]; exact ⟨.self, by simp⟩) (by simp [hx])) ?_
    rintro ⟨k, Y⟩ ⟨hk, hY, hYY⟩
    simp only at hk hY hYY
    have hYi := hY.2 i hlt
    have hY1 := hY.1
    have hri := hw.2.1 i hlt
    refine SW_of_vc Tryz.mixed _ _ _ (by kernel_rfl) ?_
    by_cases hlt2 : k < M.length
    · have g1 : (ints (mrow M i))[k]? = some (.val (.int .i64 (mat M i k))) := ints_get' hri hlt2
      have hset := fun x y => bset_at Y i k (pB M i k) (k := x) (d := y) (by omega) (by omega)
      have hfin : ∀ x y, (x < i ∨ (x = i ∧ y < k + 1)) → y < M.length → bmat (bset Y i k (pB M i k)) x y = pB M x y := by
        intro x y h hy
        rw [hset]
        split
        · rename_i e; rw [e.1, e.2]
        · exact hYY x y (by omega) hy
      by_cases hp : 0 < mat M i k
      · have e : pB M i k = true := decide_eq_true hp
        rw [e] at hfin
        generalize mat M i k = v at *
        simp (disch := omega) only [go_sem, rr_eq, rows_get, hri, g1, outerB_getB, hYi, xmap_rowB, xset_rowB, bools_set, bset_length, hY1]
        exact ⟨(k + 1, bset Y i k true), ⟨hlt2, hY.set _ _ _, hfin⟩, by show M.length - (k + 1) < M.length - k; omega, (Wk.ofX (by simp only [go_sem, ↓List.forall_mem_cons, List.not_mem_nil, false_implies, implies_true, and_true, true_and, and_self, ri_eq, Int.natCast_add, Int.cast_ofNat_Int, rr_eq]; try simp) (by simp only [List.forall_mem_cons]; exact ⟨.self, by simp⟩) (by simp [hx]))⟩
      · have e : pB M i k = false := decide_eq_false hp
        rw [e] at hfin
        generalize mat M i k = v at *
        simp (disch := omega) only [go_sem, rr_eq, rows_get, hri, g1, outerB_getB, hYi, xmap_rowB, xset_rowB, bools_set, bset_length, hY1]
        exact ⟨(k + 1, bset Y i k false), ⟨hlt2, hY.set _ _ _, hfin⟩, by show M.length - (k + 1) < M.length - k; omega, (Wk.ofX (by simp only [go_sem, ↓List.forall_mem_cons, List.not_mem_nil, false_implies, implies_true, and_true, true_and, and_self, ri_eq, Int.natCast_add, Int.cast_ofNat_Int, rr_eq]; try simp) (by simp only [List.forall_mem_cons]; exact ⟨.self, by simp⟩) (by simp [hx]))⟩
    · simp (disch := omega) only [go_sem, rr_eq]
      exact ⟨(i + 1, Y), ⟨hlt, hY, fun x y h hy => hYY x y (by omega) hy⟩, by show M.length - (i + 1) < M.length - i; omega, (Wk.ofX (by simp only [go_sem, ↓List.forall_mem_cons, List.not_mem_nil, false_implies, implies_true, and_true, true_and, and_self, ri_eq, Int.natCast_add, Int.cast_ofNat_Int, rr_eq]; try simp) (by simp only [List.forall_mem_cons]; exact ⟨.self, by simp⟩) (by simp [hx]))⟩
  · have hB : ∀ x y, x < M.length → y < M.length → bmat X x y = pB M x y := fun x y hx hy => hXX x y (by omega) hy
    have w := Tryz.l17Labels_f M.length X hM hX.1 hX.2 (fun x y hx hy h => by rw [hB y x hy hx]; rw [hB x y hx hy] at h; exact hw.sym x y hx hy h)
    have w2 : FCall Tryz.prog 79 [.val (.int .i64 M.length), rb X] (FlatRes M.length 1 (ints (comp M.length (pB M)))) := w.mono fun r H ⟨h1, h2⟩ => by
      rw [(h1.congr hB).eq] at h2; exact h2
    simp (disch := omega) only [go_sem, rr_eq]
    refine w2.one.callOne (ints_vals _) 2 (z6 z8 (z6 (view_mb .self hX.1.symm) z7)) ?_
    simp (disch := omega) only [go_sem, rr_eq]
    exact fin_ints (comp_ok hw.sym).len.symm (by rw [hx_map, zl, if_pos rfl])
theorem Tryz.specPC_not (M : List (List Int)) (hM : M.length ≤ 1048576) (hR : ∀ i, i < M.length → (mrow M i).length ≤ 1048576) (hw : ¬ WM M) : FCall Tryz.prog 32 [rr M] (FlatRes 0 1 (ints [])) := by
  have w1 := Tryz.specIsWM_ok M hM hR
  rw [isWM_f hw] at w1
  refine FCall.of_body Tryz.func32 rfl (by kernel_rfl) (by simp [Tryz.ntmps32]) ?_
  refine SW_of_vc Tryz.mixed _ _ _ (by kernel_rfl) ?_
  simp (disch := omega) only [go_sem, rr_eq]
  refine w1.callV 0 (z6 (zf) z7) ?_
  simp (disch := omega) only [go_sem, rr_eq]
  exact fin_ints (L := []) (b := 0) (e2 := false) rfl rfl

noncomputable def pcomp (M : List (List Int)) : List Int := if isWM M = true then comp M.length (pB M) else []
theorem pcomp_t {M : List (List Int)} (h : WM M) : pcomp M = comp M.length (pB M) := by rw [pcomp, if_pos (isWM_t h)]
theorem pcomp_f {M : List (List Int)} (h : ¬ WM M) : pcomp M = [] := by rw [pcomp, if_neg (by rw [isWM_f h]; simp)]
theorem pcomp_length {M : List (List Int)} (h : WM M) : (pcomp M).length = M.length := by rw [pcomp_t h]; exact (comp_ok h.sym).len
theorem Tryz.specPC_ok (M : List (List Int)) (hM : M.length ≤ 1048576) (hR : ∀ i, i < M.length → (mrow M i).length ≤ 1048576) : PCall Tryz.prog 32 [rr M] (ri (pcomp M)) := by
  by_cases h : WM M
  · rw [pcomp_t h]; exact (Tryz.specPC_f M hM hR h).pcall 2 (fun _ _ h => flat_view h)
  · rw [pcomp_f h]; exact (Tryz.specPC_not M hM hR h).pcall 2 (fun _ _ h => flat_view h)
theorem Tryz.implPC_one (M : List (List Int)) (hM : M.length ≤ 1048576) (hR : ∀ i, i < M.length → (mrow M i).length ≤ 1048576) (h : WM M) : FCall Tryz.prog 30 [rr M] (OneRes M.length 1 (ints (pcomp M))) := by
  rw [pcomp_t h]
  exact ((Tryz.implPC_f M hM hR h).mono fun _ _ h => h.2).one
theorem Tryz.implPC_ok (M : List (List Int)) (hM : M.length ≤ 1048576) (hR : ∀ i, i < M.length → (mrow M i).length ≤ 1048576) : PCall Tryz.prog 30 [rr M] (ri (pcomp M)) := by
  by_cases h : WM M
  · exact (Tryz.implPC_one M hM hR h).pcall 2 (fun _ _ g => one_view g (pcomp_length h).symm)
  · rw [pcomp_f h]; exact (Tryz.implPC_nil M hM hR h).pcall 0 (by rintro r H rfl; exact view_nil)
end Go.Sh

/-
  The law FnWeights, walked.
-/
namespace Go.Sh
open Go Go.RowKit Go.Proofs

set_option maxRecDepth 20000 in
set_option maxHeartbeats 16000000 in
theorem Tryz.fnWeights_ok (B : List Int) (hBw : B.length ≤ 9223372036854775807) : PCall Tryz.prog 4 [rby B] (.val (.bool true)) := by
  have wbig := Tryz.big_ok B hBw
  refine FCall.pcall (R := fun r _ => r = .val (.bool true)) ?_ 0 (by rintro r H rfl; exact zg)
  refine FCall.of_body Tryz.func4 rfl (by kernel_rfl) (by simp [Tryz.ntmps4]) ?_
  refine SW.seqW ⟨ofL [(0, rby B)], hp [] 0⟩ ?_ ?_
  · refine SW_of_vc Tryz.mixed _ _ _ (by kernel_rfl) ?_
    simp (disch := omega) only [go_sem, rby]
    exact Wk.of (by simp only [go_sem, ↓List.forall_mem_cons, List.not_mem_nil, false_implies, implies_true, and_true, true_and, and_self, ri_eq, Int.natCast_add, Int.cast_ofNat_Int, rby]; try simp) rfl
  by_cases hB : 1048576 < B.length
  · rw [decide_eq_true hB] at wbig
    refine SW_of_vc Tryz.mixed _ _ _ (by kernel_rfl) ?_
    simp (disch := omega) only [go_sem, rby]
    refine wbig.callV 0 (z6 (zf) z7) ?_
    simp (disch := omega) only [go_sem, rby]
    exact Fin.val rfl
  rw [decide_eq_false hB] at wbig
  have hB : B.length ≤ 1048576 := by omega
  refine SW.seqW ⟨ofL [(0, rby B)], hp [] 0⟩ ?_ ?_
  · refine SW_of_vc Tryz.mixed _ _ _ (by kernel_rfl) ?_
    simp (disch := omega) only [go_sem, rby]
    refine wbig.callV 0 (z6 (zf) z7) ?_
    simp (disch := omega) only [go_sem, rby]
    exact Wk.of (by simp only [go_sem, ↓List.forall_mem_cons, List.not_mem_nil, false_implies, implies_true, and_true, true_and, and_self, ri_eq, Int.natCast_add, Int.cast_ofNat_Int, rby]; try simp) rfl
  refine SW.seqI (fun y : List Rec × List (List Con) × List Int × Int => ⟨ofL [(0, rby B), (3, rREC y.1), (4, .optr 0 0), (5, .optr 1 0)], hp [(1, ⟨[ri y.2.2.1, .val (.int .i64 y.2.2.2)], true⟩), (0, ⟨[rR y.2.1], true⟩)] 2⟩)
    (fun y => y.1.length ≤ 7 ∧ (∀ k, k < y.1.length → (gR y.1 k).2.2.2.length ≤ 4 ∧ ∀ p ∈ (gR y.1 k).2.2.2, p.length ≤ 1000) ∧ y.2.1.length ≤ 4 ∧ (∀ i, i < y.2.1.length → (rg y.2.1 i).length ≤ 3) ∧ y.2.2.1.length = 6) ?_ ?_
  · refine SW_of_vc Tryz.mixed _ _ _ (by kernel_rfl) ?_
    simp (disch := omega) only [go_sem, rby]
    refine (Tryz.drawBw_e B hB).callE 0 (z6 (zf) z7) ?_
    rintro T ⟨R, Q, W, b, rfl, h7, hF, h4, h3, hW⟩
    simp (disch := omega) only [go_sem, rby, rREC, rR, sS, List.set_cons_zero, List.set_cons_succ]
    exact ⟨(R, Q, W, b), ⟨h7, hF, h4, h3, hW⟩, Wk.ofH (by simp only [go_sem, ↓List.forall_mem_cons, List.not_mem_nil, false_implies, implies_true, and_true, true_and, and_self, ri_eq, Int.natCast_add, Int.cast_ofNat_Int, rR, sS, rREC, rby]; try simp) (by simp (disch := omega) only [go_sem, ↓List.forall_mem_cons, List.not_mem_nil, false_implies, implies_true, and_true, true_and, and_self, ri_eq, Int.natCast_add, Int.cast_ofNat_Int, if_pos, if_neg, Nat.reduceAdd, List.nil_append, rR, sS]; try simp) (Nat.le_refl _)⟩
  rintro ⟨R, Q, W, b⟩ ⟨h7, hF, h4, h3, hW⟩
  simp only at h7 hF h4 h3 hW
  clear wbig
  have hQl : Q.length ≤ 1048576 := by omega
  have hTl : ∀ i, i < Q.length → (rg Q i).length ≤ 1048576 := fun i hi => by have := h3 i hi; omega
  have hWl : W.length ≤ 1048576 := by omega
  have hR : LR R := ⟨by omega, fun k hk => by
    obtain ⟨f1, f2⟩ := hF k hk
    refine ⟨by omega, fun i hi => ?_⟩
    have := f2 ((gR R k).2.2.2.getD i []) (by simp [hi])
    omega⟩
  have wI := Tryz.implBW_ok R Q W b hR hQl hTl hWl
  have wS := Tryz.specBW_ok R Q W b hR hQl hTl hWl
  have hMl : (bwR R Q W b).length ≤ 8 ∧ ∀ i, i < (bwR R Q W b).length → (mrow (bwR R Q W b) i).length ≤ 8 := by
    cases hv : okBW R Q W b with
    | true =>
      have hw := bwM_WM hv
      rw [bwR_t hv]
      exact ⟨hw.1.2, fun i hi => by rw [hw.2.1 i hi]; exact hw.1.2⟩
    | false => rw [bwR_f hv]; exact ⟨by simp, fun i hi => by simp at hi⟩
  have sM := Tryz.sameRows_ok (bwR R Q W b) (by omega) (fun i hi => by have := hMl.2 i hi; omega)
  have wM := Tryz.implIsWM_ok (bwR R Q W b) (by omega) (fun i hi => by have := hMl.2 i hi; omega)
  refine SW.seqW ⟨ofL [(0, rby B), (3, rREC R), (4, .optr 0 0), (5, .optr 1 0), (6, rr (bwR R Q W b))], hp [(1, ⟨[ri W, .val (.int .i64 b)], true⟩), (0, ⟨[rR Q], true⟩)] 2⟩ ?_ ?_
  · refine SW_of_vc Tryz.mixed _ _ _ (by kernel_rfl) ?_
    simp (disch := omega) only [go_sem, rby, rR, rREC]
    refine wI.callV 1 (z6 zf (z6 zi (z6 view_sS z7))) ?_
    simp (disch := omega) only [go_sem, rby, rR, rREC]
    exact Wk.of (by simp only [go_sem, ↓List.forall_mem_cons, List.not_mem_nil, false_implies, implies_true, and_true, true_and, and_self, ri_eq, Int.natCast_add, Int.cast_ofNat_Int, rR, rREC, rby]; try simp) rfl
  refine SW.seqW ⟨ofL [(0, rby B), (3, rREC R), (4, .optr 0 0), (5, .optr 1 0), (6, rr (bwR R Q W b))], hp [(1, ⟨[ri W, .val (.int .i64 b)], true⟩), (0, ⟨[rR Q], true⟩)] 2⟩ ?_ ?_
  · refine SW_of_vc Tryz.mixed _ _ _ (by kernel_rfl) ?_
    simp (disch := omega) only [go_sem, rby, rR, rREC, rr_eq]
    refine wS.callV 1 (z6 zf (z6 zi (z6 view_sS z7))) ?_
    simp (disch := omega) only [go_sem, rby, rR, rREC, rr_eq]
    refine sM.callV 0 (z6 zf (z6 zf z7)) ?_
    simp (disch := omega) only [go_sem, rby, rR, rREC, rr_eq]
    exact Wk.of (by simp only [go_sem, ↓List.forall_mem_cons, List.not_mem_nil, false_implies, implies_true, and_true, true_and, and_self, ri_eq, Int.natCast_add, Int.cast_ofNat_Int, rR, rREC, rr_eq, rby]; try simp) rfl
  refine SW.seqW ⟨ofL [(0, rby B), (6, rr (bwR R Q W b))], hp [(1, ⟨[ri W, .val (.int .i64 b)], true⟩), (0, ⟨[rR Q], true⟩)] 2⟩ ?_ ?_
  · clear wI wS sM wM
    cases hv : okBW R Q W b with
    | false =>
      rw [bwR_f hv]
      refine SW_of_vc Tryz.mixed _ _ _ (by kernel_rfl) ?_
      simp (disch := omega) only [go_sem, rby, rR, rREC, rr_eq]
      refine LoopW.loop (fun _ : Unit => ⟨ofL [(0, rby B), (6, rr []), (7, .val (.int .i64 0))], hp [(1, ⟨[ri W, .val (.int .i64 b)], true⟩), (0, ⟨[rR Q], true⟩)] 2⟩) (fun _ => True) (fun _ => 0) () trivial (Wk.of (by simp only [go_sem, ↓List.forall_mem_cons, List.not_mem_nil, false_implies, implies_true, and_true, true_and, and_self, ri_eq, Int.natCast_add, Int.cast_ofNat_Int, rR, rREC, rr_eq, rby]; try simp) rfl) ?_
      intro _ _
      refine SW_of_vc Tryz.mixed _ _ _ (by kernel_rfl) ?_
      simp (disch := omega) only [go_sem, rby, rR, rREC, rr_eq, List.length_nil]
      exact Wk.of (by simp only [go_sem, ↓List.forall_mem_cons, List.not_mem_nil, false_implies, implies_true, and_true, true_and, and_self, ri_eq, Int.natCast_add, Int.cast_ofNat_Int, rR, rREC, rr_eq, rby]; try simp) rfl
    | true =>
      have hw := bwM_WM hv
      obtain ⟨hva, h8, q1, q2⟩ := okBW_facts hv
      have hml : (bwM R Q W b).length = R.length := (genM_sq R.length (bw R Q W b)).1
      have hat : ∀ i k, i < R.length → k < R.length → mat (bwM R Q W b) i k = bw R Q W b i k := fun i k hi hk => genM_at hi hk
      rw [bwR_t hv]
      generalize bwM R Q W b = M at *
      have rl : (rows M).length = M.length := by simp [rows]
      have lC := recs_length R
      refine SW_of_vc Tryz.mixed _ _ _ (by kernel_rfl) ?_
      simp (disch := omega) only [go_sem, rby, rR, rREC, rr_eq]
      refine LoopW.loop (fun i : Nat => ⟨ofL [(0, rby B), (3, rREC R), (4, .optr 0 0), (5, .optr 1 0), (6, rr M), (7, .val (.int .i64 i))], hp [(1, ⟨[ri W, .val (.int .i64 b)], true⟩), (0, ⟨[rR Q], true⟩)] 2⟩) (fun i => i ≤ M.length) (fun i => M.length - i) 0 (by omega) (Wk.of (by simp only [go_sem, ↓List.forall_mem_cons, List.not_mem_nil, false_implies, implies_true, and_true, true_and, and_self, ri_eq, Int.natCast_add, Int.cast_ofNat_Int, rR, rREC, rr_eq, rby]; try simp) rfl) ?_
      intro i hi
      refine SW_of_vc Tryz.mixed _ _ _ (by kernel_rfl) ?_
      by_cases hlt : i < M.length
      · have ri0 := hw.2.1 i hlt
        have gri : (rows M)[i]? = some (.row M.length false (ints (mrow M i))) := by rw [rows_get hlt, ri0]
        have hili : (ints (mrow M i)).length = M.length := by rw [zh, ri0]
        simp (disch := omega) only [go_sem, rby, rR, rREC, rr_eq]
        refine LoopW.loop (fun k : Nat => ⟨ofL [(0, rby B), (3, rREC R), (4, .optr 0 0), (5, .optr 1 0), (6, rr M), (7, .val (.int .i64 i)), (8, .val (.int .i64 k))], hp [(1, ⟨[ri W, .val (.int .i64 b)], true⟩), (0, ⟨[rR Q], true⟩)] 2⟩) (fun k => k ≤ M.length) (fun k => M.length - k) 0 (by omega) (Wk.of (by simp only [go_sem, ↓List.forall_mem_cons, List.not_mem_nil, false_implies, implies_true, and_true, true_and, and_self, ri_eq, Int.natCast_add, Int.cast_ofNat_Int, rR, rREC, rr_eq, rby]; try simp) rfl) ?_
        intro k hk
        refine SW_of_vc Tryz.mixed _ _ _ (by kernel_rfl) ?_
        by_cases hkl : k < M.length
        · have rk0 := hw.2.1 k hkl
          have grk : (rows M)[k]? = some (.row M.length false (ints (mrow M k))) := by rw [rows_get hkl, rk0]
          have hilk : (ints (mrow M k)).length = M.length := by rw [zh, rk0]
          have g1 : (ints (mrow M i))[k]? = some (.val (.int .i64 (mat M i k))) := ints_get' ri0 hkl
          have g2 : (ints (mrow M k))[i]? = some (.val (.int .i64 (mat M i k))) := by rw [(hw.2.2.1 i k hlt hkl).2]; exact ints_get' rk0 hlt
          by_cases hik : i = k
          · subst hik
            simp (disch := omega) only [go_sem, rby, rR, rREC, rr_eq, rl, gri, hili, g1, bne_self_eq_false]
            exact ⟨i + 1, by omega, by omega, Wk.of (by simp only [go_sem, ↓List.forall_mem_cons, List.not_mem_nil, false_implies, implies_true, and_true, true_and, and_self, ri_eq, Int.natCast_add, Int.cast_ofNat_Int, rR, rREC, rr_eq, rby]; try simp) rfl⟩
          · have e1 : ((i : Int) != (k : Int)) = true := by rw [bne_iff_ne]; omega
            have glp := recs_load (R := R) (k := i) (by omega)
            have glq := recs_load (R := R) (k := k) (by omega)
            have vp := vAll_at hva (k := i) (by omega)
            have vq := vAll_at hva (k := k) (by omega)
            have lp := hR.2 i (by omega)
            have lq := hR.2 k (by omega)
            have hfp : fl R i = (gR R i).2.2.2 := rfl
            have hfq : fl R k = (gR R k).2.2.2 := rfl
            have hbw : mat M i k = pwt Q W b (pf (fl R i) (fl R k)) := by rw [hat i k (by omega) (by omega), bw_ne hik]
            obtain ⟨a1, a2, a3, F, hr1⟩ := rec_ex R i
            obtain ⟨b1, b2, b3, G, hr2⟩ := rec_ex R k
            rw [hr1] at glp vp lp hfp
            rw [hr2] at glq vq lq hfq
            simp only [rec4] at glp glq
            simp only at hfp hfq lp lq
            have wf := Tryz.specPF_ok a1 a2 a3 F b1 b2 b3 G lp lq vp vq
            have wr := Tryz.specRsH_ok Q (pf F G) hQl hTl (by show 6 ≤ 1048576; omega)
            have hsg := pwt_sg q1 q2 (pf_fv F G)
            rw [hfp, hfq] at hbw
            rw [← hsg, ← hbw] at wr
            generalize mat M i k = x at *
            generalize pf F G = fv at *
            simp (disch := omega) only [go_sem, rby, rR, rREC, rr_eq, rl, gri, grk, hili, hilk, g1, g2, e1, glp, glq, lC, hml, bne_self_eq_false, beq_self_eq_true, Bool.not_true]
            refine wf.callDV 1 (z6 view_rec (z6 view_rec z7)) ?_
            simp (disch := omega) only [go_sem, rby, rR, rREC, rr_eq, rl, gri, grk, hili, hilk, g1, g2, e1, glp, glq, lC, hml, bne_self_eq_false, beq_self_eq_true, Bool.not_true]
            refine wr.callDV 1 (z6 zi (z6 zf z7)) ?_
            simp (disch := omega) only [go_sem, rby, rR, rREC, rr_eq, rl, gri, grk, hili, hilk, g1, g2, e1, glp, glq, lC, hml, bne_self_eq_false, beq_self_eq_true, Bool.not_true]
            exact ⟨k + 1, by omega, by omega, Wk.of (by simp only [go_sem, ↓List.forall_mem_cons, List.not_mem_nil, false_implies, implies_true, and_true, true_and, and_self, ri_eq, Int.natCast_add, Int.cast_ofNat_Int, rR, rREC, rr_eq, rby]; try simp) rfl⟩
        · obtain rfl : k = M.length := by omega
          simp (disch := omega) only [go_sem, rby, rR, rREC, rr_eq]
          exact ⟨i + 1, by omega, by omega, Wk.of (by simp only [go_sem, ↓List.forall_mem_cons, List.not_mem_nil, false_implies, implies_true, and_true, true_and, and_self, ri_eq, Int.natCast_add, Int.cast_ofNat_Int, rR, rREC, rr_eq, rby]; try simp) rfl⟩
      · obtain rfl : i = M.length := by omega
        simp (disch := omega) only [go_sem, rby, rR, rREC, rr_eq]
        exact Wk.of (by simp only [go_sem, ↓List.forall_mem_cons, List.not_mem_nil, false_implies, implies_true, and_true, true_and, and_self, ri_eq, Int.natCast_add, Int.cast_ofNat_Int, rR, rREC, rr_eq, rby]; try simp) rfl
  clear wI wS sM
  have hfin : (bwR R Q W b).length = 0 ∨ isWM (bwR R Q W b) = true := by
    cases hv : okBW R Q W b with
    | true => rw [bwR_t hv]; exact .inr (isWM_t (bwM_WM hv))
    | false => rw [bwR_f hv]; exact .inl rfl
  generalize bwR R Q W b = M at *
  refine SW.seqI (fun X : List (List Int) => ⟨ofL [(6, rr M), (9, rr X)], hp [(1, ⟨[ri W, .val (.int .i64 b)], true⟩), (0, ⟨[rR Q], true⟩)] 2⟩) (fun X => X.length ≤ 7 ∧ ∀ i, i < X.length → (mrow X i).length ≤ 6) ?_ ?_
  · refine SW_of_vc Tryz.mixed _ _ _ (by kernel_rfl) ?_
    simp (disch := omega) only [go_sem, rby]
    refine (Tryz.drawFm_e B hB).callE 0 (z6 (zf) z7) ?_
    rintro T ⟨X, rfl, h7, h6⟩
    simp (disch := omega) only [go_sem, rby]
    exact ⟨X, ⟨h7, h6⟩, Wk.of (by simp only [go_sem, ↓List.forall_mem_cons, List.not_mem_nil, false_implies, implies_true, and_true, true_and, and_self, ri_eq, Int.natCast_add, Int.cast_ofNat_Int, rby]; try simp) rfl⟩
  rintro X ⟨x7, x6⟩
  have hXl : X.length ≤ 1048576 := by omega
  have hXr : ∀ i, i < X.length → (mrow X i).length ≤ 1048576 := fun i hi => by have := x6 i hi; omega
  have f1 := Tryz.implFM_ok X hXl hXr
  have f2 := Tryz.implPC_ok X hXl hXr
  have f3 := Tryz.specPC_ok X hXl hXr
  have f4 := Tryz.specIsWM_ok X hXl hXr
  have f5 := Tryz.sameRows_ok X hXl hXr
  have hpl : (pcomp X).length ≤ 7 := by
    by_cases h : WM X
    · rw [pcomp_length h]; exact x7
    · rw [pcomp_f h]; simp
  have f6 := Tryz.sameInts_ok (pcomp X) (by omega)
  refine SW.seqW ⟨ofL [(6, rr M), (9, rr X), (10, str (fmtM X))], hp [(1, ⟨[ri W, .val (.int .i64 b)], true⟩), (0, ⟨[rR Q], true⟩)] 2⟩ ?_ ?_
  · refine SW_of_vc Tryz.mixed _ _ _ (by kernel_rfl) ?_
    simp (disch := omega) only [go_sem, rr_eq]
    refine f1.callV 0 (z6 zf z7) ?_
    simp (disch := omega) only [go_sem, rr_eq]
    exact Wk.of (by simp only [go_sem, ↓List.forall_mem_cons, List.not_mem_nil, false_implies, implies_true, and_true, true_and, and_self, ri_eq, Int.natCast_add, Int.cast_ofNat_Int, rr_eq]; try simp) rfl
  refine SW.seqI (fun Y : List (List Int) => ⟨ofL [(6, rr M), (9, rr X), (11, rr Y), (12, .val (.bool (isWM X)))], hp [(1, ⟨[ri W, .val (.int .i64 b)], true⟩), (0, ⟨[rR Q], true⟩)] 2⟩) (fun Y => isWM X = true → Y = X) ?_ ?_
  · refine SW_of_vc Tryz.mixed _ _ _ (by kernel_rfl) ?_
    by_cases hx : WM X
    · have f7 := Tryz.implPMx_t X hx
      simp (disch := omega) only [go_sem, rr_eq]
      refine f7.callV 0 (z6 zd z7) ?_
      simp (disch := omega) only [go_sem, rr_eq]
      exact ⟨X, fun _ => rfl, Wk.of (by simp only [go_sem, ↓List.forall_mem_cons, List.not_mem_nil, false_implies, implies_true, and_true, true_and, and_self, ri_eq, Int.natCast_add, Int.cast_ofNat_Int, rr_eq, isWM_t hx]; try simp) rfl⟩
    · have f7 := Tryz.implPMx_f X hx
      simp (disch := omega) only [go_sem, rr_eq]
      refine f7.callV 0 (z6 zd z7) ?_
      simp (disch := omega) only [go_sem, rr_eq]
      exact ⟨[], fun h => by rw [isWM_f hx] at h; exact absurd h (by simp), Wk.of (by simp only [go_sem, ↓List.forall_mem_cons, List.not_mem_nil, false_implies, implies_true, and_true, true_and, and_self, ri_eq, Int.natCast_add, Int.cast_ofNat_Int, rr_eq, isWM_f hx]; try simp) rfl⟩
  rintro Y hY
  refine SW.seqW ⟨ofL [(6, rr M), (9, rr X), (11, rr Y), (12, .val (.bool (isWM X))), (13, ri (pcomp X))], hp [(1, ⟨[ri W, .val (.int .i64 b)], true⟩), (0, ⟨[rR Q], true⟩)] 2⟩ ?_ ?_
  · refine SW_of_vc Tryz.mixed _ _ _ (by kernel_rfl) ?_
    simp (disch := omega) only [go_sem, rr_eq]
    refine f2.callV 0 (z6 zf z7) ?_
    simp (disch := omega) only [go_sem, rr_eq]
    exact Wk.of (by simp only [go_sem, ↓List.forall_mem_cons, List.not_mem_nil, false_implies, implies_true, and_true, true_and, and_self, ri_eq, Int.natCast_add, Int.cast_ofNat_Int, rr_eq]; try simp) rfl
  refine SW.seqW ⟨ofL [(6, rr M), (9, rr X), (13, ri (pcomp X))], hp [(1, ⟨[ri W, .val (.int .i64 b)], true⟩), (0, ⟨[rR Q], true⟩)] 2⟩ ?_ ?_
  · refine SW_of_vc Tryz.mixed _ _ _ (by kernel_rfl) ?_
    cases hx : isWM X with
    | true =>
      have e := hY hx
      subst e
      rw [hx] at f4
      simp (disch := omega) only [go_sem, rr_eq]
      refine f3.callV 0 (z6 zf z7) ?_
      simp (disch := omega) only [go_sem, rr_eq]
      refine f6.callV 0 (z6 zf (z6 zf z7)) ?_
      simp (disch := omega) only [go_sem, rr_eq]
      refine f4.callV 0 (z6 zf z7) ?_
      simp (disch := omega) only [go_sem, rr_eq, bne_self_eq_false]
      refine f5.callV 0 (z6 zf (z6 zf z7)) ?_
      simp (disch := omega) only [go_sem, rr_eq, bne_self_eq_false]
      exact Wk.of (by simp only [go_sem, ↓List.forall_mem_cons, List.not_mem_nil, false_implies, implies_true, and_true, true_and, and_self, ri_eq, Int.natCast_add, Int.cast_ofNat_Int, rr_eq]; try simp) rfl
    | false =>
      rw [hx] at f4
      simp (disch := omega) only [go_sem, rr_eq]
      refine f3.callV 0 (z6 zf z7) ?_
      simp (disch := omega) only [go_sem, rr_eq]
      refine f6.callV 0 (z6 zf (z6 zf z7)) ?_
      simp (disch := omega) only [go_sem, rr_eq]
      refine f4.callV 0 (z6 zf z7) ?_
      simp (disch := omega) only [go_sem, rr_eq, bne_self_eq_false]
      exact Wk.of (by simp only [go_sem, ↓List.forall_mem_cons, List.not_mem_nil, false_implies, implies_true, and_true, true_and, and_self, ri_eq, Int.natCast_add, Int.cast_ofNat_Int, rr_eq]; try simp) rfl
  clear f1 f2 f3 f4 f5 f6 hY
  refine SW.seqW ⟨ofL [(6, rr M)], hp [(1, ⟨[ri W, .val (.int .i64 b)], true⟩), (0, ⟨[rR Q], true⟩)] 2⟩ ?_ ?_
  · by_cases hw : WM X
    · have hpn := pcomp_length hw
      have hC := comp_ok hw.sym
      have hcm : ∀ i k, i < X.length → k < X.length → 0 < mat X i k → (pcomp X).getD i 0 = (pcomp X).getD k 0 := fun i k hi hk h => by
        rw [pcomp_t hw]
        exact (hC.iff i k hi hk).2 (.one hi hk (by rw [pB]; exact decide_eq_true h))
      generalize pcomp X = p at *
      have rl : (rows X).length = X.length := by simp [rows]
      have hpi : (ints p).length = X.length := by rw [zh, hpn]
      refine SW_of_vc Tryz.mixed _ _ _ (by kernel_rfl) ?_
      simp (disch := omega) only [go_sem, rr_eq]
      refine LoopW.loop (fun i : Nat => ⟨ofL [(6, rr M), (9, rr X), (13, ri p), (14, .val (.int .i64 i))], hp [(1, ⟨[ri W, .val (.int .i64 b)], true⟩), (0, ⟨[rR Q], true⟩)] 2⟩) (fun i => i ≤ X.length) (fun i => X.length - i) 0 (by omega) (Wk.of (by simp only [go_sem, ↓List.forall_mem_cons, List.not_mem_nil, false_implies, implies_true, and_true, true_and, and_self, ri_eq, Int.natCast_add, Int.cast_ofNat_Int, rr_eq]; try simp) rfl) ?_
      intro i hi
      refine SW_of_vc Tryz.mixed _ _ _ (by kernel_rfl) ?_
      by_cases hlt : i < X.length
      · have ri0 := hw.2.1 i hlt
        have gri : (rows X)[i]? = some (.row X.length false (ints (mrow X i))) := by rw [rows_get hlt, ri0]
        have hili : (ints (mrow X i)).length = X.length := by rw [zh, ri0]
        have gp1 : (ints p)[i]? = some (.val (.int .i64 (p.getD i 0))) := ints_get (by omega)
        simp (disch := omega) only [go_sem, rr_eq, hpn]
        refine LoopW.loop (fun k : Nat => ⟨ofL [(6, rr M), (9, rr X), (13, ri p), (14, .val (.int .i64 i)), (15, .val (.int .i64 k))], hp [(1, ⟨[ri W, .val (.int .i64 b)], true⟩), (0, ⟨[rR Q], true⟩)] 2⟩) (fun k => k ≤ X.length) (fun k => X.length - k) 0 (by omega) (Wk.of (by simp only [go_sem, ↓List.forall_mem_cons, List.not_mem_nil, false_implies, implies_true, and_true, true_and, and_self, ri_eq, Int.natCast_add, Int.cast_ofNat_Int, rr_eq, hpn]; try simp) rfl) ?_
        intro k hk
        refine SW_of_vc Tryz.mixed _ _ _ (by kernel_rfl) ?_
        by_cases hkl : k < X.length
        · have g1 : (ints (mrow X i))[k]? = some (.val (.int .i64 (mat X i k))) := ints_get' ri0 hkl
          by_cases hp : 0 < mat X i k
          · have gp2 : (ints p)[k]? = some (.val (.int .i64 (p.getD i 0))) := by rw [hcm i k hlt hkl hp]; exact ints_get (by omega)
            simp (disch := omega) only [go_sem, rr_eq, hpn, rl, gri, hili, g1, gp1, gp2, hpi, bne_self_eq_false]
            exact ⟨k + 1, by omega, by omega, Wk.of (by simp only [go_sem, ↓List.forall_mem_cons, List.not_mem_nil, false_implies, implies_true, and_true, true_and, and_self, ri_eq, Int.natCast_add, Int.cast_ofNat_Int, rr_eq]; try simp) rfl⟩
          · simp (disch := omega) only [go_sem, rr_eq, hpn, rl, gri, hili, g1, hpi]
            exact ⟨k + 1, by omega, by omega, Wk.of (by simp only [go_sem, ↓List.forall_mem_cons, List.not_mem_nil, false_implies, implies_true, and_true, true_and, and_self, ri_eq, Int.natCast_add, Int.cast_ofNat_Int, rr_eq]; try simp) rfl⟩
        · obtain rfl : k = X.length := by omega
          simp (disch := omega) only [go_sem, rr_eq, hpn]
          exact ⟨i + 1, by omega, by omega, Wk.of (by simp only [go_sem, ↓List.forall_mem_cons, List.not_mem_nil, false_implies, implies_true, and_true, true_and, and_self, ri_eq, Int.natCast_add, Int.cast_ofNat_Int, rr_eq]; try simp) rfl⟩
      · obtain rfl : i = X.length := by omega
        simp (disch := omega) only [go_sem, rr_eq, hpn]
        exact Wk.of (by simp only [go_sem, ↓List.forall_mem_cons, List.not_mem_nil, false_implies, implies_true, and_true, true_and, and_self, ri_eq, Int.natCast_add, Int.cast_ofNat_Int, rr_eq]; try simp) rfl
    · have hp0 := pcomp_f hw
      rw [hp0]
      refine SW_of_vc Tryz.mixed _ _ _ (by kernel_rfl) ?_
      simp (disch := omega) only [go_sem, rr_eq]
      refine LoopW.loop (fun _ : Unit => ⟨ofL [(6, rr M), (9, rr X), (13, ri []), (14, .val (.int .i64 0))], hp [(1, ⟨[ri W, .val (.int .i64 b)], true⟩), (0, ⟨[rR Q], true⟩)] 2⟩) (fun _ => True) (fun _ => 0) () trivial (Wk.of (by simp only [go_sem, ↓List.forall_mem_cons, List.not_mem_nil, false_implies, implies_true, and_true, true_and, and_self, ri_eq, Int.natCast_add, Int.cast_ofNat_Int, rr_eq]; try simp) rfl) ?_
      intro _ _
      refine SW_of_vc Tryz.mixed _ _ _ (by kernel_rfl) ?_
      simp (disch := omega) only [go_sem, rr_eq, List.length_nil]
      exact Wk.of (by simp only [go_sem, ↓List.forall_mem_cons, List.not_mem_nil, false_implies, implies_true, and_true, true_and, and_self, ri_eq, Int.natCast_add, Int.cast_ofNat_Int, rr_eq]; try simp) rfl
  refine SW_of_vc Tryz.mixed _ _ _ (by kernel_rfl) ?_
  by_cases h0 : M.length = 0
  · simp (disch := omega) only [go_sem, rr_eq, h0]
    exact Fin.val rfl
  · have h1 := hfin.resolve_left h0
    rw [h1] at wM
    simp (disch := omega) only [go_sem, rr_eq, h0]
    refine wM.callV 0 (z6 zf z7) ?_
    simp (disch := omega) only [go_sem, rr_eq, h0]
    exact Fin.val rfl
end Go.Sh

/-
  From the row's condition to the two sentinels of strconv.
-/
namespace Go.Sh
open Go Go.Proofs

theorem iface_of_trod {H : Type} {enc : TypeId × Value → H} {P : Program} {w : World} {base : Nat} {sp : Nat → Bool} {held : Bool} {fuel : Nat} {t : TypeId} {ms : Array (String × TypeId)} {cs : List Value} {d : DataW H} {p : List MemPlace} (hu : P.underlying t = some (.interface ms))
    (h : DataW.trod enc P w base sp held fuel t cs = some (d, p)) : ∃ v, cs = [v] ∧ ErrV v := by
  cases fuel with
  | zero => simp [DataW.trod] at h
  | succ fuel =>
    rcases cs with _ | ⟨v, _ | ⟨v2, r⟩⟩
    · simp [DataW.trod, hu] at h
    · cases v <;> first | exact ⟨_, rfl, .inl rfl⟩ | exact ⟨_, rfl, .inr ⟨_, _, rfl⟩⟩ | simp [DataW.trod, hu] at h
    · simp [DataW.trod, hu] at h
theorem Tryz.errSG : Tryz.prog.globalNamed "strconv.ErrSyntax" = some 2 := by kernel_rfl
theorem Tryz.errRG : Tryz.prog.globalNamed "strconv.ErrRange" = some 3 := by kernel_rfl
theorem Tryz.ifu : ∃ ms, Tryz.prog.underlying 164 = some (.interface ms) := isIface_t Tryz.ty.if164
theorem Tryz.errOf {W : World} {n : String} {d : DataW Unit} {g : Nat} (hg : Tryz.prog.globalNamed n = some g) (ht : (Tryz.prog.globals[g]?).map (·.type) = some 164) (h : Lib.VarReads Tryz.prog W n d) :
    (∃ (c : Array Value) (e : TypeId) (fr : Nat × Nat), W.heap[g]? = some (.cells c e fr) ∧ c.size = 1) ∧ ∃ v, W.cell? ⟨g, 0, none⟩ = some v ∧ ErrV v := by
  obtain ⟨g', t, cs, fuel, p, e1, e2, e3, e4⟩ := h
  obtain rfl := Option.some.inj (hg.symm.trans e1)
  obtain rfl := Option.some.inj (ht.symm.trans e2)
  obtain ⟨ms, hu⟩ := Tryz.ifu
  obtain ⟨v, hc, hv⟩ := iface_of_trod hu e4
  have hsz : cs.size = 1 := by
    have := congrArg List.length hc
    simpa using this
  have e5 := e3
  simp only [World.var?, hg, Option.bind_some] at e3
  split at e3
  · rename_i cs' e fr hh
    obtain rfl := Option.some.inj e3
    refine ⟨⟨_, _, _, hh, hsz⟩, v, ?_, hv⟩
    rw [World.var?_cell hg e5 0, ← Array.getElem?_toList, hc]; rfl
  · cases e3
end Go.Sh

/-
  From the row's condition and the world's shape to all the tables that the laws of weights read.
-/
namespace Go.Sh
open Go Go.Proofs

theorem Tryz.codesG : Tryz.prog.globalNamed "loop.example/g01923/impl.soundCodes" = some 0 := by kernel_rfl
theorem Tryz.codesOf {W : World} (h : Lib.VarReads Tryz.prog W "loop.example/g01923/impl.soundCodes" Go.Proofs.YtihglnbaoadmcaaGreatDoor.Rows.laid_loop_example_g01923_impl_soundCodes) :
    (∃ (c : Array Value) (e : TypeId) (fr : Nat × Nat), W.heap[0]? = some (.cells c e fr) ∧ c.size = 26) ∧ ∀ i x, scTab[i]? = some x → W.cell? ⟨0, i, none⟩ = some (.int .i64 x) := by
  obtain ⟨g, t, cs, fuel, p, e1, e2, e3, e4⟩ := h
  obtain rfl := Option.some.inj (Tryz.codesG.symm.trans e1)
  obtain rfl := Option.some.inj ((show (Tryz.prog.globals[0]?).map (·.type) = some 202 by kernel_rfl).symm.trans e2)
  have hd : (Go.Proofs.YtihglnbaoadmcaaGreatDoor.Rows.laid_loop_example_g01923_impl_soundCodes : DataW Unit) = Lib.tabData .i64 scTab := by kernel_rfl
  rw [hd] at e4
  have hc := Lib.cells_of_tab Tryz.underlying202 Tryz.underlying3 (by kernel_rfl) (by kernel_rfl) e4
  have hsz : cs.size = 26 := by
    have := congrArg List.length hc
    simpa [scTab] using this
  have e5 := e3
  simp only [World.var?, Tryz.codesG, Option.bind_some] at e3
  split at e3
  · rename_i cs' e fr hh
    obtain rfl := Option.some.inj e3
    refine ⟨⟨_, _, _, hh, hsz⟩, fun i x hx => ?_⟩
    rw [World.var?_cell Tryz.codesG e5 i, ← Array.getElem?_toList, hc]
    simp [hx]
  · cases e3
theorem Tryz.maxLenOf {W : World} (h : W.ShapedOpen Tryz.prog) : (∃ (c : Array Value) (e : TypeId) (fr : Nat × Nat), W.heap[1]? = some (.cells c e fr) ∧ c.size = 1) ∧ ∃ m, W.cell? ⟨1, 0, none⟩ = some (.int .i64 m) := by
  refine ⟨?_, cell_of_shapedOpen_int (zero := #[.int .i64 0]) (t := 3) h (of_decide_eq_true (by kernel_rfl)) (by kernel_rfl) rfl (by kernel_rfl) (by kernel_rfl) Tryz.underlying3⟩
  obtain ⟨cs, h1, h2, _⟩ := h.1 1 #[.int .i64 0] 3 (of_decide_eq_true (by kernel_rfl)) (by kernel_rfl)
  exact ⟨cs, _, _, h1, h2⟩
theorem Tryz.tabOkC {W : World} {l : List (String × DataW Unit)} (hsh : W.ShapedOpen Tryz.prog) (h : laidMetH Tryz.prog l W) (hp : (l.all fun x => x.2.handleName?.isNone) = true) (hm : ("internal/strconv.uint64pow10", Go.Proofs.YtihglnbaoadmcaaGreatDoor.Rows.laid_internal_strconv_uint64pow10) ∈ l)
    (hes : ("strconv.ErrSyntax", Go.Proofs.YtihglnbaoadmcaaGreatDoor.Rows.laid_strconv_ErrSyntax) ∈ l) (her : ("strconv.ErrRange", Go.Proofs.YtihglnbaoadmcaaGreatDoor.Rows.laid_strconv_ErrRange) ∈ l)
    (hfn : ("loop.example/g01923/impl.soundCodes", Go.Proofs.YtihglnbaoadmcaaGreatDoor.Rows.laid_loop_example_g01923_impl_soundCodes) ∈ l) : TabOk (fun _ => False) W := by
  rw [MakeChecks.laidMetH_plain _ _ _ hp] at h
  have hs := Tryz.errOf Tryz.errSG (by kernel_rfl) (Lib.laidMet.reads h hes)
  have hr := Tryz.errOf Tryz.errRG (by kernel_rfl) (Lib.laidMet.reads h her)
  have hn := Tryz.codesOf (Lib.laidMet.reads h hfn)
  have hx := Tryz.maxLenOf hsh
  obtain ⟨g, t, cs, fuel, p, e1, e2, e3, e4⟩ := Lib.laidMet.reads h hm
  obtain rfl := Option.some.inj (Tryz.powG.symm.trans e1)
  obtain rfl := Option.some.inj ((show (Tryz.prog.globals[6]?).map (·.type) = some 255 by kernel_rfl).symm.trans e2)
  have hd : (Go.Proofs.YtihglnbaoadmcaaGreatDoor.Rows.laid_internal_strconv_uint64pow10 : DataW Unit) = Lib.tabData .u64 Lib.pow10Tab := by kernel_rfl
  rw [hd] at e4
  have hc := Lib.cells_of_tab Tryz.underlying255 Tryz.underlying231 (by kernel_rfl) (by kernel_rfl) e4
  have hsz : cs.size = 20 := by
    have := congrArg List.length hc
    simpa [Lib.pow10Tab] using this
  have e5 := e3
  simp only [World.var?, Tryz.powG, Option.bind_some] at e3
  split at e3
  · rename_i cs' e fr hh
    obtain rfl := Option.some.inj e3
    intro p hp
    simp only [TABS, List.mem_cons, List.not_mem_nil, or_false] at hp
    rcases hp with rfl | rfl | rfl | rfl | rfl
    · refine ⟨⟨_, _, _, hh, by simpa using hsz⟩, fun i Q hq => ?_⟩
      simp only [List.getElem?_map, Option.map_eq_some_iff] at hq
      obtain ⟨k, hk, rfl⟩ := hq
      have hi : i < 20 := by
        have := (List.getElem?_eq_some_iff.1 hk).1
        simpa using this
      obtain rfl : i = k := by simpa [hi] using hk
      refine ⟨_, ?_, rfl, fun h => h⟩
      rw [World.var?_cell Tryz.powG e5 i, ← Array.getElem?_toList, hc]
      simp [Lib.pow10Tab, hi]
    · obtain ⟨⟨c, e, fr, h1, h2⟩, v, h3, h4⟩ := hs
      refine ⟨⟨c, e, fr, h1, h2⟩, fun i Q hq => ?_⟩
      cases i with
      | zero => simp only [List.getElem?_cons_zero, Option.some.injEq] at hq; subst hq; exact ⟨v, h3, h4, fun h => h⟩
      | succ i => simp at hq
    · obtain ⟨⟨c, e, fr, h1, h2⟩, v, h3, h4⟩ := hr
      refine ⟨⟨c, e, fr, h1, h2⟩, fun i Q hq => ?_⟩
      cases i with
      | zero => simp only [List.getElem?_cons_zero, Option.some.injEq] at hq; subst hq; exact ⟨v, h3, h4, fun h => h⟩
      | succ i => simp at hq
    · obtain ⟨⟨c, e, fr, h1, h2⟩, m, h3⟩ := hx
      refine ⟨⟨c, e, fr, h1, h2⟩, fun i Q hq => ?_⟩
      cases i with
      | zero => simp only [List.getElem?_cons_zero, Option.some.injEq] at hq; subst hq; exact ⟨_, h3, ⟨m, rfl⟩, fun h => h⟩
      | succ i => simp at hq
    · obtain ⟨⟨c, e, fr, h1, h2⟩, h3⟩ := hn
      refine ⟨⟨c, e, fr, h1, h2⟩, fun i Q hq => ?_⟩
      have hq2 : (scTab.map fun c => fun (v : Value) => v = Value.int .i64 c)[i]? = some Q := by
        rw [← hq]; rfl
      simp only [List.getElem?_map, Option.map_eq_some_iff] at hq2
      obtain ⟨x, hx2, rfl⟩ := hq2
      exact ⟨_, h3 i x hx2, rfl, fun h => h⟩
  · cases e3
section
variable {H : Type} {enc : TypeId × Value → H}
theorem retShaped {a : Assume} {C : Checked} {os : Os} {f : FuncId} {fn : Func} {s : ChangeSpec} {conds : List PathCond} {apart fresh handsOn again : Bool} {X : World → Array Value → Prop}
    (hX : ∀ (w w' : World) (args : Array Value), w.heap = w'.heap → X w args → X w' args)
    (own : ownKnob C.prog.godebug = none) (started : os.Started) (noInit : C.prog.inits.idxOf? f = none) (hfn : C.prog.funcs[f]? = some fn)
    (witness : ∃ (w : World) (tape : Tape) (i : Input), w.os = os ∧ (w.forCall tape i).Shaped C.prog ∧ i.vars = [] ∧ Input.okWide C.prog (w.forCall tape i) .any w.heap.size f i ∧
      ((s.pre enc C.prog fn conds apart (w.forCall tape i).memory i.args ∧ X (w.forCall tape i).memory i.args) ∧ sizedMet enc C.prog fn (OpenSpec.ofChange s) apart (w.forCall tape i).memory i.args) ∧ a.holds C.prog (lone (Frame.enter C.prog f i.args .normal) [] (w.forCall tape i)))
    (contract : ∀ (W : World) (base : Nat) (args : Array Value) (ds gs : List (DataW H)) (before : List MemPlace), W.ShapedOpen C.prog →
      (∀ (j : Nat) t v, fn.params[j]? = some t → args[j]? = some v → Value.okWide C.prog W .any base t v) →
      DataW.Whole enc C.prog fn.params.toList s.vars apart W args.toList ds gs before → X W args →
      Calls C.prog f args W fun e W' => ∃ v, e = .returned v ∧ s.post enc C.prog fn apart fresh handsOn again W args v W') :
    ReturnsInHanded a C os f .any (fun w args => (s.pre enc C.prog fn conds apart w args ∧ X w args) ∧ sizedMet enc C.prog fn (OpenSpec.ofChange s) apart w args) (s.post enc C.prog fn apart fresh handsOn again) := by
  refine returnsInHanded_of_calls own started noInit witness ?_
  intro w tape i _ hso _ hok hpre _
  obtain ⟨_, _, _, fn', hfn', _, _, _, _, hval⟩ := hok
  obtain rfl : fn' = fn := Option.some.inj (hfn'.symm.trans hfn)
  obtain ⟨⟨⟨ds, gs, before, hw, _⟩, hx⟩, _⟩ := hpre
  refine (contract (w.forCall tape i) w.heap.size i.args ds gs before hso hval (DataW.Whole.of_heap (w' := w.forCall tape i) (by rfl) hw) (hX _ _ _ (by rfl) hx)).mono fun e W' ⟨v, he, hp⟩ => ?_
  subst he
  exact ChangeSpec.post_blind hp
end
end Go.Sh

/-
  From the values that came in to the shadow's: bytes.
-/
namespace Go.Sh
open Go Go.RowKit
open Go.ChangeShapes Go.WideShapes

theorem crel_bys {O : Nat → Prop} {w : World} : ∀ (L : List Int) (x : Addr), (L ≠ [] → ¬ O x.block) → (∀ i, i < L.length → w.cell? (x.add i) = some (.int .u8 (L.getD i 0))) → CRel O w (bys L) x
  | [], x, _, _ => by simp only [bys, List.map_nil, CRel]
  | n :: L, x, hO, h => by
    have h0 := h 0 (by simp)
    rw [Addr.add_zero'] at h0
    have hs : x.spot = none := World.cell?_spot h0
    have e : bys (n :: L) = .val (.int .u8 n) :: bys L := rfl
    rw [e]
    simp only [CRel]
    refine ⟨hs, hO (by simp), ⟨_, h0, by simp [VRel]⟩, crel_bys L ⟨x.block, x.off + 1, none⟩ (fun _ => hO (by simp)) (fun i hi => ?_)⟩
    have := h (i + 1) (by simpa using hi)
    have e2 : (⟨x.block, x.off + 1, none⟩ : Addr).add i = x.add (i + 1) := by
      rw [Addr.add_lit, Addr.add_succ']
      simp [Nat.add_assoc, Nat.add_comm 1 i]
    rw [e2, this]
    simp
theorem isRow_bys {w : World} {a : Option Addr} {len cap : Nat} {zs : List Int} (h : IsRow .u8 w a len cap zs) : VRel (fun _ => False) w noj (rby (zs.take len)) (.slice a len cap) := by
  rcases h with ⟨rfl, rfl, rfl, rfl⟩ | ⟨x, rfl, h1, h2, h3, h4, h5⟩
  · simp only [rby, VRel]
    exact ⟨none, 0, rfl, Nat.le_refl _, by simp, .inl (by simp [bys])⟩
  · have hl : (zs.take len).length = len := by simp; omega
    simp only [rby, VRel]
    refine ⟨some x, cap, by rw [hl], by omega, by simp, .inr ⟨x, rfl, crel_bys _ x (fun _ h => h) (fun i hi => ?_)⟩⟩
    have hi' : i < len := by rw [hl] at hi; exact hi
    rw [h4 i (by omega)]
    congr 2
    simp [List.getD, hi']
theorem cell_bys {Hh : Type} {enc : TypeId × Value → Hh} {P : Program} {w : World} {held : Bool} {t e : TypeId} {fuel : Nat} {v : Value} {x : DataW Hh × List MemPlace} (ht : P.underlying t = some (.slice e)) (he : P.underlying e = some (.int .u8)) (hc : P.cellsOf e = 1)
    (h : DataW.trod enc P w 0 (fun _ => true) held fuel t [v] = some x) : ∃ L : List Int, VRel (fun _ => False) w noj (rby L) v ∧ L.length ≤ maxLen := by
  rcases open_ints ht he hc h with ⟨hcs, _⟩ | ⟨a, l, c, zs, hcs, _, hl, hm, hz, _, hcell, hwz⟩
  · simp at hcs
    subst hcs
    exact ⟨[], isRow_bys (zs := []) (.inl ⟨rfl, rfl, rfl, rfl⟩), by simp⟩
  · simp at hcs
    subst hcs
    exact ⟨zs.take l, isRow_bys (.inr ⟨_, rfl, hl, hm, by simpa using hz, hcell, hwz⟩), by simp; omega⟩
end Go.Sh
