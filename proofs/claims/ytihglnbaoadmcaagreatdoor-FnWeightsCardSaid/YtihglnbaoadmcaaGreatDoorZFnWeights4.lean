/-
  Texts put together: DA1, DA2, PE1, MH1, WI, WJ, WO, FI4, CT3, WR, WS, WK, WN, WT, WU. What each proves stands at its own head, with its conditions.
-/
import Derived.Test.YtihglnbaoadmcaaGreatDoorZFnWeights3

set_option linter.unusedSimpArgs false
set_option linter.unusedVariables false
/-
  Drawing numbers from bytes: the cursor, a byte, a number below a bound, one of a list.
-/
namespace Go.Sh
open Go Go.Proofs

def bys (B : List Int) : List SV := B.map fun b => .val (.int .u8 b)
def rby (B : List Int) : SV := .row B.length false (bys B)
theorem bys_get {B : List Int} {i : Nat} (h : i < B.length) : (bys B)[i]? = some (.val (.int .u8 (B.getD i 0))) := by simp [bys, h]
def curB (B : List Int) (i : Nat) (h : Int) : Blk := ⟨[rby B, .val (.int .i64 i), .val (.int .i64 h)], true⟩
def Cur (B : List Int) (H : Heap) (cb : Nat) : Prop := ∃ (i : Nat) (h : Int), i ≤ B.length ∧ H.map cb = some (curB B i h)
def CurS (B : List Int) (H : Heap) (cb : Nat) (H' : Heap) : Prop := ∃ (i : Nat) (h : Int), i ≤ B.length ∧ H' = H.set cb (some (curB B i h))
theorem hset_set (H : Heap) (b : Nat) (x y : Option Blk) : (H.set b x).set b y = H.set b y := by
  refine Heap.ext' (fun z => ?_) rfl
  simp only [ze]
  split <;> rfl
theorem CurS.cur {B : List Int} {H H' : Heap} {cb : Nat} (h : CurS B H cb H') : Cur B H' cb := by
  obtain ⟨i, x, hi, rfl⟩ := h
  exact ⟨i, x, hi, by rw [ze, if_pos rfl]⟩
theorem Cur.s {B : List Int} {H : Heap} {cb : Nat} (h : Cur B H cb) : CurS B H cb H := by
  obtain ⟨i, x, hi, e⟩ := h
  exact ⟨i, x, hi, (Heap.set_self e).symm⟩
theorem CurS.nb {B : List Int} {H H' : Heap} {cb : Nat} (h : CurS B H cb H') : H'.nb = H.nb := by obtain ⟨i, x, hi, rfl⟩ := h; rfl
theorem CurS.map {B : List Int} {H H' : Heap} {cb b : Nat} (h : CurS B H cb H') (hb : b ≠ cb) : H'.map b = H.map b := by obtain ⟨i, x, hi, rfl⟩ := h; rw [ze, if_neg hb]
theorem kand255 (x : Int) : 0 ≤ kand .i64 x 255 ∧ kand .i64 x 255 ≤ 255 := by
  have h : ((BitVec.ofInt 64 x) &&& (BitVec.ofInt 64 255)).toNat ≤ 255 := by
    rw [BitVec.toNat_and]
    exact Nat.le_trans Nat.and_le_right (by decide)
  generalize hn : ((BitVec.ofInt 64 x) &&& (BitVec.ofInt 64 255)).toNat = n at *
  have e : kand .i64 x 255 = IntKind.i64.wrap (n : Int) := by rw [← hn]; rfl
  rw [e, wrap_id (by omega) (by omega)]; omega

def NewQ (B : List Int) (H : Heap) (r : SV) (H' : Heap) : Prop := ∃ h, r = .optr H.nb 0 ∧ H' = H.push (curB B 0 h)
set_option maxHeartbeats 2000000 in
theorem Tryz.l1New_ok (B : List Int) (hB : B.length ≤ 1048576) (H : Heap) : CallS Tryz.prog 60 [rby B] H (NewQ B H) := by
  have hfin : ∀ h : Int, NewQ B H (SV.optr H.nb 0) (H.push ⟨[.row B.length false (bys B), .val (.int .i64 0), .val (.int .i64 h)], true⟩) := fun h => ⟨h, rfl, rfl⟩
  refine CallS.of_body Tryz.func60 rfl (by kernel_rfl) (by simp [Tryz.ntmps60]) ?_
  refine SW_of_vc Tryz.mixed _ _ _ (by kernel_rfl) ?_
  simp (disch := omega) only [go_sem, rby]
  refine LoopW.loop (fun y : Nat × Int => ⟨ofL [(0, rby B), (3, .val (.int .i64 y.2)), (4, .val (.int .i64 y.1))], H⟩) (fun y => y.1 ≤ B.length) (fun y => B.length - y.1) (0, 10101 + B.length) (by simp) (Wk.of (by simp only [go_sem, ↓List.forall_mem_cons, List.not_mem_nil, false_implies, implies_true, and_true, true_and, and_self, ri_eq, Int.natCast_add, Int.cast_ofNat_Int, rby]; try simp) rfl) ?_
  rintro ⟨i, h⟩ hi
  simp only at hi
  refine SW_of_vc Tryz.mixed _ _ _ (by kernel_rfl) ?_
  by_cases hlt : i < B.length
  · have gb := bys_get hlt
    by_cases h4 : i < 4000
    · simp (disch := omega) only [go_sem, rby, gb]
      exact ⟨(i + 1, kand .i64 (IntKind.i64.wrap (IntKind.i64.wrap (IntKind.i64.wrap (h * 131) + IntKind.i64.wrap (B.getD i 0)) + 7)) 1073741823), hlt, by show B.length - (i + 1) < B.length - i; omega, Wk.of (by simp only [go_sem, ↓List.forall_mem_cons, List.not_mem_nil, false_implies, implies_true, and_true, true_and, and_self, ri_eq, Int.natCast_add, Int.cast_ofNat_Int, rby]; try simp) rfl⟩
    · simp (disch := omega) only [go_sem, rby, gb]
      exact hfin h
  · simp (disch := omega) only [go_sem, rby]
    exact hfin h

def ByteQ (B : List Int) (H : Heap) (cb : Nat) (r : SV) (H' : Heap) : Prop := ∃ v : Int, r = .val (.int .i64 v) ∧ 0 ≤ v ∧ v ≤ 255 ∧ CurS B H cb H'
set_option maxHeartbeats 2000000 in
theorem Tryz.l1Byte_ok (B : List Int) (hB : B.length ≤ 1048576) (H : Heap) (cb : Nat) (hc : Cur B H cb) : CallS Tryz.prog 150 [.optr cb 0] H (ByteQ B H cb) := by
  obtain ⟨i, h, hi, hm⟩ := hc
  rw [curB] at hm
  refine CallS.of_body Tryz.func150 rfl (by kernel_rfl) (by simp [Tryz.ntmps150]) ?_
  refine SW_of_vc Tryz.mixed _ _ _ (by kernel_rfl) ?_
  by_cases hlt : i < B.length
  · have gb := bys_get hlt
    simp (disch := omega) only [go_sem, rby, hm, ze, gb]
    have hk := kand255
    exact ⟨_, rfl, (hk _).1, (hk _).2, i + 1, _, hlt, hset_set _ _ _ _⟩
  · simp (disch := omega) only [go_sem, rby, hm, ze]
    have hk := kand255
    exact ⟨_, rfl, (hk _).1, (hk _).2, i, _, hi, rfl⟩

def BelowQ (B : List Int) (n : Int) (H : Heap) (cb : Nat) (r : SV) (H' : Heap) : Prop := ∃ v : Int, r = .val (.int .i64 v) ∧ 0 ≤ v ∧ (0 < n → v < n) ∧ (n ≤ 0 → v = 0) ∧ CurS B H cb H'
set_option maxHeartbeats 2000000 in
theorem Tryz.l1Below_ok (B : List Int) (hB : B.length ≤ 1048576) (n : Int) (hn : n ≤ 256) (H : Heap) (cb : Nat) (hc : Cur B H cb) : CallS Tryz.prog 104 [.optr cb 0, .val (.int .i64 n)] H (BelowQ B n H cb) := by
  have w := Tryz.l1Byte_ok B hB H cb hc
  refine CallS.of_body Tryz.func104 rfl (by kernel_rfl) (by simp [Tryz.ntmps104]) ?_
  refine SW_of_vc Tryz.mixed _ _ _ (by kernel_rfl) ?_
  by_cases h0 : n ≤ 0
  · have hfin : BelowQ B n H cb (.val (.int .i64 0)) H := ⟨0, rfl, by omega, by omega, fun _ => rfl, hc.s⟩
    simp (disch := omega) only [go_sem]
    exact hfin
  · simp (disch := omega) only [go_sem]
    refine w.callX ?_
    rintro r H' ⟨v, rfl, v0, v1, hs⟩
    have h1 : 0 ≤ v.tmod n := Int.tmod_nonneg n v0
    have h2 : v.tmod n < n := Int.tmod_lt_of_pos v (by omega)
    have hfin : BelowQ B n H cb (.val (.int .i64 (v.tmod n))) H' := ⟨_, rfl, h1, fun _ => h2, fun h => by omega, hs⟩
    have hne : ¬ n = 0 := by omega
    simp (disch := omega) only [go_sem, hne]
    exact hfin
theorem BelowQ.ne {B : List Int} {n : Int} {H : Heap} {cb : Nat} (hc : Cur B H cb) : ∃ r H', BelowQ B n H cb r H' := ⟨_, H, 0, rfl, by omega, fun h => h, fun _ => rfl, hc.s⟩

def OnceQ (B : List Int) (H : Heap) (cb : Nat) (r : SV) (H' : Heap) : Prop := ∃ b : Bool, r = .val (.bool b) ∧ CurS B H cb H'
theorem Tryz.l1Once_ok (B : List Int) (hB : B.length ≤ 1048576) (n : Int) (hn : n ≤ 256) (H : Heap) (cb : Nat) (hc : Cur B H cb) : CallS Tryz.prog 106 [.optr cb 0, .val (.int .i64 n)] H (OnceQ B H cb) := by
  have w := Tryz.l1Below_ok B hB n hn H cb hc
  refine CallS.of_body Tryz.func106 rfl (by kernel_rfl) (by simp [Tryz.ntmps106]) ?_
  refine SW_of_vc Tryz.mixed _ _ _ (by kernel_rfl) ?_
  simp (disch := omega) only [go_sem]
  refine w.callX ?_
  rintro r H' ⟨v, rfl, v0, v1, v2, hs⟩
  have hfin : ∀ b, OnceQ B H cb (.val (.bool b)) H' := fun b => ⟨b, rfl, hs⟩
  simp (disch := omega) only [go_sem]
  exact hfin _

def PickQ (B : List Int) (L : List Int) (H : Heap) (cb : Nat) (r : SV) (H' : Heap) : Prop := ∃ v : Int, r = .val (.int .i64 v) ∧ v ∈ L ∧ CurS B H cb H'
theorem PickQ.ne {B L : List Int} {H : Heap} {cb : Nat} (hL : L ≠ []) (hc : Cur B H cb) : ∃ r H', PickQ B L H cb r H' := ⟨_, H, L.head hL, rfl, List.head_mem hL, hc.s⟩
theorem Tryz.l1Pick_ok (B : List Int) (hB : B.length ≤ 1048576) (L : List Int) (hL : L ≠ []) (hl : L.length ≤ 256) (H : Heap) (cb lb : Nat) (ex e2 : Bool) (hc : Cur B H cb) (hb : H.map lb = some ⟨ints L, e2⟩) (hne : lb ≠ cb) :
    CallS Tryz.prog 111 [.optr cb 0, .own lb 0 L.length L.length 1 ex] H (PickQ B L H cb) := by
  have w := Tryz.l1Below_ok B hB L.length (by omega) H cb hc
  have hl0 : 0 < L.length := List.length_pos_iff.2 hL
  refine CallS.of_body Tryz.func111 rfl (by kernel_rfl) (by simp [Tryz.ntmps111]) ?_
  refine SW_of_vc Tryz.mixed _ _ _ (by kernel_rfl) ?_
  simp (disch := omega) only [go_sem]
  refine w.callX ?_
  rintro r H' ⟨v, rfl, v0, v1, v2, hs⟩
  have v1 := v1 (by omega)
  obtain ⟨x, rfl⟩ := Int.eq_ofNat_of_zero_le v0
  have hx : x < L.length := by omega
  have hm : H'.map lb = some ⟨ints L, e2⟩ := by rw [hs.map hne, hb]
  have gx : (ints L)[x]? = some (.val (.int .i64 (L.getD x 0))) := ints_get hx
  have hfin : PickQ B L H cb (.val (.int .i64 (L.getD x 0))) H' := ⟨_, rfl, by simp [hx], hs⟩
  simp (disch := omega) only [go_sem, hm, gx]
  exact hfin
end Go.Sh

/-
  Drawing a matrix.
-/
namespace Go.Sh
open Go Go.Proofs

structure MatH (H : Heap) (lo ob : Nat) (cs : List SV) (nm : Nat → Nat) (M : List (List Int)) : Prop where
  ln : cs.length = M.length
  o : H.map ob = some ⟨cs, false⟩
  row : ∀ i, i < M.length → ∃ e e2, cs[i]? = some (.own (nm i) 0 (mrow M i).length (mrow M i).length 1 e) ∧ H.map (nm i) = some ⟨ints (mrow M i), e2⟩
  inj : ∀ i j, i < M.length → j < M.length → nm i = nm j → i = j
  lo1 : lo ≤ ob ∧ ob < H.nb
  lo2 : ∀ i, i < M.length → lo ≤ nm i ∧ nm i < H.nb ∧ nm i ≠ ob
theorem MatH.fr {H H' : Heap} {lo ob : Nat} {cs : List SV} {nm : Nat → Nat} {M : List (List Int)} (h : MatH H lo ob cs nm M) (hn : H.nb ≤ H'.nb) (hf : ∀ b, lo ≤ b → b < H.nb → H'.map b = H.map b) : MatH H' lo ob cs nm M := by
  refine ⟨h.ln, by rw [hf _ h.lo1.1 h.lo1.2, h.o], fun i hi => ?_, h.inj, ⟨h.lo1.1, by have := h.lo1.2; omega⟩, fun i hi => ?_⟩
  · obtain ⟨e, e2, h1, h2⟩ := h.row i hi
    obtain ⟨k1, k2, k3⟩ := h.lo2 i hi
    exact ⟨e, e2, h1, by rw [hf _ k1 k2, h2]⟩
  · obtain ⟨k1, k2, k3⟩ := h.lo2 i hi
    exact ⟨k1, by omega, k3⟩
theorem MatH.low {H : Heap} {lo lo2 ob : Nat} {cs : List SV} {nm : Nat → Nat} {M : List (List Int)} (h : MatH H lo ob cs nm M) (hl : lo2 ≤ lo) : MatH H lo2 ob cs nm M :=
  ⟨h.ln, h.o, h.row, h.inj, ⟨by have := h.lo1; omega, h.lo1.2⟩, fun i hi => by have := h.lo2 i hi; exact ⟨by omega, this.2⟩⟩
theorem mrow_lt {M N : List (List Int)} {i : Nat} (h : i < M.length) : mrow (M ++ N) i = mrow M i := by simp [mrow, h, List.getElem?_append_left h]
theorem mrow_at {M : List (List Int)} {L : List Int} : mrow (M ++ [L]) M.length = L := by simp [mrow]
theorem MatH.snoc {H H' : Heap} {lo ob ob' r l : Nat} {cs : List SV} {nm : Nat → Nat} {M : List (List Int)} {L : List Int} {e e2 : Bool} (h : MatH H lo ob cs nm M) (hl : l = L.length) (ho : H'.map ob' = some ⟨cs ++ [.own r 0 l l 1 e], false⟩) (hr : H'.map r = some ⟨ints L, e2⟩)
    (hf : ∀ b, lo ≤ b → b < H.nb → b ≠ ob → H'.map b = H.map b) (hn : H.nb ≤ H'.nb) (h1 : H.nb ≤ ob' ∧ ob' < H'.nb) (h2 : H.nb ≤ r ∧ r < H'.nb) (hne : r ≠ ob') : MatH H' lo ob' (cs ++ [.own r 0 l l 1 e]) (fun i => if i < M.length then nm i else r) (M ++ [L]) := by
  subst hl
  have hlo := h.lo1
  refine ⟨by simp [h.ln], ho, fun i hi => ?_, fun i j hi hj hij => ?_, ⟨by omega, h1.2⟩, fun i hi => ?_⟩
  · by_cases hlt : i < M.length
    · obtain ⟨e, e2, g1, g2⟩ := h.row i hlt
      obtain ⟨k1, k2, k3⟩ := h.lo2 i hlt
      refine ⟨e, e2, ?_, ?_⟩
      · rw [List.getElem?_append_left (by rw [h.ln]; exact hlt), g1, mrow_lt hlt, if_pos hlt]
      · rw [if_pos hlt, mrow_lt hlt, hf _ k1 k2 k3, g2]
    · have : i = M.length := by simp at hi; omega
      subst this
      exact ⟨e, e2, by rw [mrow_at, if_neg (by omega), ← h.ln]; simp, by rw [if_neg (by omega), mrow_at, hr]⟩
  · simp only [List.length_append, List.length_singleton] at hi hj
    by_cases a : i < M.length <;> by_cases b : j < M.length
    · simp only [a, b, if_true] at hij; exact h.inj i j a b hij
    · simp only [a, b, if_true, if_false] at hij
      have := h.lo2 i a; omega
    · simp only [a, b, if_true, if_false] at hij
      have := h.lo2 j b; omega
    · omega
  · simp only [List.length_append, List.length_singleton] at hi
    show lo ≤ (if i < M.length then nm i else r) ∧ (if i < M.length then nm i else r) < H'.nb ∧ (if i < M.length then nm i else r) ≠ ob'
    split
    · rename_i a
      have := h.lo2 i a
      exact ⟨this.1, by omega, by omega⟩
    · exact ⟨by omega, h2.2, hne⟩
theorem mset_row_ne {M : List (List Int)} {i k j : Nat} {x : Int} (h : j ≠ i) : mrow (mset M i k x) j = mrow M j := by
  simp [mrow, mset, List.getElem?_set, Ne.symm h]
theorem mset_row_eq {M : List (List Int)} {i k : Nat} {x : Int} (h : i < M.length) : mrow (mset M i k x) i = (mrow M i).set k x := by
  simp [mrow, mset, List.getElem?_set, h]
theorem MatH.set {H : Heap} {lo ob i k : Nat} {cs : List SV} {nm : Nat → Nat} {M : List (List Int)} {x : Int} {e2 : Bool} (h : MatH H lo ob cs nm M) (hi : i < M.length) : MatH (H.set (nm i) (some ⟨ints ((mrow M i).set k x), e2⟩)) lo ob cs nm (mset M i k x) := by
  have hl : (mset M i k x).length = M.length := mset_length ..
  have hi2 := h.lo2 i hi
  refine ⟨by rw [hl, h.ln], by rw [ze, if_neg (by omega), h.o], fun j hj => ?_, fun a b ha hb => h.inj a b (by omega) (by omega), h.lo1, fun j hj => h.lo2 j (by omega)⟩
  rw [hl] at hj
  obtain ⟨e, e3, h1, h2⟩ := h.row j hj
  by_cases hji : j = i
  · subst hji
    rw [mset_row_eq hi, List.length_set]
    exact ⟨e, e2, h1, by rw [ze, if_pos rfl]⟩
  · rw [mset_row_ne hji]
    exact ⟨e, e3, h1, by rw [ze, if_neg (fun g => hji (h.inj _ _ hj hi g)), h2]⟩
structure DS (B : List Int) (cb : Nat) (H H' : Heap) : Prop where
  cur : Cur B H' cb
  nb : H.nb ≤ H'.nb
  fr : ∀ b, b < H.nb → b ≠ cb → H'.map b = H.map b
theorem DS.trans {B : List Int} {cb : Nat} {H H1 H2 : Heap} (h : DS B cb H H1) (g : DS B cb H1 H2) : DS B cb H H2 :=
  ⟨g.cur, Nat.le_trans h.nb g.nb, fun b hb hc => by rw [g.fr b (Nat.lt_of_lt_of_le hb h.nb) hc, h.fr b hb hc]⟩
theorem CurS.ds {B : List Int} {cb : Nat} {H H' : Heap} (h : CurS B H cb H') : DS B cb H H' := ⟨h.cur, by rw [h.nb]; exact Nat.le_refl _, fun b _ hc => h.map hc⟩
theorem DS.push {B : List Int} {cb : Nat} {H : Heap} (h : Cur B H cb) (hc : cb < H.nb) (k : Blk) : DS B cb H (H.push k) := by
  obtain ⟨i, x, hi, e⟩ := h
  exact ⟨⟨i, x, hi, by rw [zb, if_neg (by omega), e]⟩, by rw [za]; omega, fun b hb _ => by rw [zb, if_neg (by omega)]⟩
theorem DS.setF {B : List Int} {cb : Nat} {H H1 : Heap} (h : DS B cb H H1) (b : Nat) (hb : H.nb ≤ b) (hc : b ≠ cb) (k : Option Blk) : DS B cb H (H1.set b k) := by
  obtain ⟨i, x, hi, e⟩ := h.cur
  exact ⟨⟨i, x, hi, by rw [ze, if_neg (Ne.symm hc), e]⟩, h.nb, fun z hz hzc => by rw [ze, if_neg (by omega), h.fr z hz hzc]⟩
theorem repI2 : rep [SV.val (.int .i64 0)] 2 = [SV.val (.int .i64 0), SV.val (.int .i64 0)] := rfl
theorem repI3 : rep [SV.val (.int .i64 0)] 3 = [SV.val (.int .i64 0), SV.val (.int .i64 0), SV.val (.int .i64 0)] := rfl
theorem repI6 : rep [SV.val (.int .i64 0)] 6 = [SV.val (.int .i64 0), SV.val (.int .i64 0), SV.val (.int .i64 0), SV.val (.int .i64 0), SV.val (.int .i64 0), SV.val (.int .i64 0)] := rfl
theorem repI10 : rep [SV.val (.int .i64 0)] 10 = [SV.val (.int .i64 0), SV.val (.int .i64 0), SV.val (.int .i64 0), SV.val (.int .i64 0), SV.val (.int .i64 0), SV.val (.int .i64 0), SV.val (.int .i64 0), SV.val (.int .i64 0), SV.val (.int .i64 0), SV.val (.int .i64 0)] := rfl
attribute [go_sem high] repI2 repI3 repI6 repI10
end Go.Sh

/-
  Results that are known as contents of some kind alone.
-/
namespace Go.Sh
open Go Go.RowKit Go.Proofs

section
variable {P : Program}
def PCallE (P : Program) (f : FuncId) (args : List SV) (S : SV → Prop) : Prop :=
  Enters P f ∧ ∀ w vs, LRel (fun _ => False) w noj args vs → TabOk (fun _ => False) w → Calls P f vs.toArray w (fun e w' => ∃ v T, S T ∧ e = .returned v ∧ Below w.heap.size w w' ∧ VRel (fun k => k < w.heap.size) w' noj T v)
theorem FCall.pcallE {f : FuncId} {args : List SV} {R : SV → Heap → Prop} {S : SV → Prop} (h : FCall P f args R) (fu : Nat) (hr : ∀ r H, R r H → ∃ T, view H fu r = some T ∧ S T) : PCallE P f args S := by
  refine ⟨h.1, fun w vs hl ht => (h.2 w vs hl ht).mono ?_⟩
  rintro e w' ⟨v, r, j, H, h1, h2, h3, h4, h5, h6, h7, h8⟩
  have hlive : Live (fun k => k < w.heap.size) j H w' := h3.liveN h7 (fun k hk => by have := h5 k hk; omega)
  obtain ⟨T, k1, k2⟩ := hr r H h8
  exact ⟨v, T, k2, h1, h2, view_sound hlive fu r T v k1 (VRel.anyO r v h6 h4)⟩
theorem PCallE.callE {f : FuncId} {args args' : List SV} {S : SV → Prop} {H : Heap} {K : SV → Heap → Prop} (h : PCallE P f args' S) (fu : Nat) (hv : viewL H fu args = some args') (k : ∀ T, S T → K T H) : @CallX P f args H ⟨K⟩ := by
  refine ⟨h.1, fun j w vs r hl => ?_⟩
  have hl' := viewL_sound r.live0 fu args args' vs hv (LRel.tr (Tr.weaken w (fun _ h => h.elim)) (fun _ _ h => h) args vs hl)
  refine (h.2 w vs hl' (r.tab.tr (Tr.weaken w (fun _ h => h.elim)))).mono ?_
  rintro e w' ⟨v, T, hS, h1, h2, h3⟩
  obtain ⟨r', nx⟩ := r.below h2
  refine ⟨T, v, j, H, h1, r', ?_, nx, k T hS⟩
  exact VRel.tr (Tr.weaken w' (fun k hk => r.own_lt hk)) (by intro b p h; simp [noj] at h) T v h3
end
def R3 (S : SV → Prop) (r : SV) (H : Heap) : Prop := ∃ T, view H 3 r = some T ∧ S T
def part (H : Heap) (p : Nat → Prop) [DecidablePred p] : Heap := ⟨fun b => if p b then H.map b else none, H.nb⟩
theorem part_sub (H : Heap) (p : Nat → Prop) [DecidablePred p] : Sub (part H p) H := ⟨rfl, fun b => by
  show (if p b then H.map b else none) = none ∨ (if p b then H.map b else none) = H.map b
  split
  · exact .inr rfl
  · exact .inl rfl⟩
theorem part_map {H : Heap} {p : Nat → Prop} [DecidablePred p] {b : Nat} (h : p b) : (part H p).map b = H.map b := if_pos h
end Go.Sh

/-
  Matrices in a heap of any kind: seen as contents; cut out.
-/
namespace Go.Sh
open Go Go.RowKit Go.Proofs

theorem MatH.viewH {H : Heap} {lo ob : Nat} {cs : List SV} {nm : Nat → Nat} {M : List (List Int)} {f cap : Nat} {e : Bool} (h : MatH H lo ob cs nm M) : Sh.view H (f + 2) (.own ob 0 M.length cap 1 e) = some (rr M) := by
  have hL : viewL H (f + 1) cs = some (rows M) := by
    have hr : ∀ i, i < M.length → ∃ s, cs[i]? = some s ∧ Sh.view H (f + 1) s = some (ri (mrow M i)) := fun i hi => by
      obtain ⟨e, e2, h1, h2⟩ := h.row i hi
      exact ⟨_, h1, view_own (L := mrow M i) (e2 := e2) h2 rfl⟩
    have hln := h.ln
    clear h
    induction cs generalizing M with
    | nil =>
      have : M = [] := List.length_eq_zero_iff.1 hln.symm
      subst this
      exact z7
    | cons s cs ih =>
      cases M with
      | nil => simp at hln
      | cons L M =>
        refine z6 ?_ (ih (M := M) (fun i hi => ?_) (by simpa using hln))
        · obtain ⟨s', h1, h2⟩ := hr 0 (by simp)
          simp at h1; subst h1
          exact h2
        · obtain ⟨s', h1, h2⟩ := hr (i + 1) (by simpa using hi)
          exact ⟨s', by simpa using h1, h2⟩
  simp only [Sh.view, h.o, Nat.mul_one, List.drop_zero]
  have hle : M.length ≤ cs.length := by rw [h.ln]; omega
  rw [if_pos (by omega), ← h.ln, List.take_length, hL]
  simp only [rr, h.ln]
theorem noRowL_of {cs : List SV} (h : ∀ s ∈ cs, noRow s = true) : noRowL cs = true := by
  induction cs with
  | nil => rfl
  | cons s cs ih => simp only [noRowL, h s (by simp), ih fun s hs => h s (by simp [hs]), Bool.and_self]
theorem MatH.part {H : Heap} {lo ob : Nat} {cs : List SV} {nm : Nat → Nat} {M : List (List Int)} (h : MatH H lo ob cs nm M) (p : Nat → Prop) [DecidablePred p] (h1 : p ob) (h2 : ∀ i, i < M.length → p (nm i)) : MatH (Sh.part H p) lo ob cs nm M :=
  ⟨h.ln, by rw [part_map h1, h.o], fun i hi => by
    obtain ⟨e, e2, k1, k2⟩ := h.row i hi
    exact ⟨e, e2, k1, by rw [part_map (h2 i hi), k2]⟩, h.inj, h.lo1, h.lo2⟩
theorem MatH.nr {H : Heap} {lo ob : Nat} {cs : List SV} {nm : Nat → Nat} {M : List (List Int)} (h : MatH H lo ob cs nm M) : noRowL cs = true :=
  noRowL_of fun s hs => by
    obtain ⟨i, hi, rfl⟩ := List.getElem_of_mem hs
    obtain ⟨e, e2, h1, h2⟩ := h.row i (by rw [← h.ln]; exact hi)
    rw [List.getElem?_eq_getElem hi] at h1
    simp at h1
    rw [h1]; rfl
def Rect (M : List (List Int)) (n : Nat) : Prop := ∀ i, i < M.length → (mrow M i).length = n
theorem Rect.set {M : List (List Int)} {n i k : Nat} {x : Int} (h : Rect M n) : Rect (mset M i k x) n := fun j hj => by
  rw [mset_length] at hj
  rw [mset_row_length]; exact h j hj
theorem Rect.snoc {M : List (List Int)} {n : Nat} {L : List Int} (h : Rect M n) (hL : L.length = n) : Rect (M ++ [L]) n := fun j hj => by
  by_cases hlt : j < M.length
  · rw [mrow_lt hlt]; exact h j hlt
  · have : j = M.length := by simp at hj; omega
    subst this; rw [mrow_at]; exact hL
end Go.Sh

/-
  Tables in memory of its own; the edit distance: contracts.
-/
namespace Go.Sh
open Go Go.Proofs

structure TabH (H : Heap) (ob : Nat) (ex : Bool) (cs : List SV) (nm : Nat → Nat) (M : List (List Int)) : Prop where
  ln : M.length ≤ cs.length
  o : H.map ob = some ⟨cs, ex⟩
  row : ∀ i, i < M.length → cs[i]? = some (.own (nm i) 0 (mrow M i).length (mrow M i).length 1 true) ∧ H.map (nm i) = some ⟨ints (mrow M i), true⟩
  inj : ∀ i j, i < M.length → j < M.length → nm i = nm j → i = j
  lo1 : ob < H.nb
  lo2 : ∀ i, i < M.length → nm i < H.nb ∧ nm i ≠ ob
theorem TabH.frN {H H' : Heap} {ob : Nat} {ex : Bool} {cs : List SV} {nm : Nat → Nat} {M : List (List Int)} (h : TabH H ob ex cs nm M) (hn : H.nb ≤ H'.nb) (ho : H'.map ob = H.map ob) (hf : ∀ i, i < M.length → H'.map (nm i) = H.map (nm i)) : TabH H' ob ex cs nm M :=
  ⟨h.ln, by rw [ho, h.o], fun i hi => ⟨(h.row i hi).1, by rw [hf i hi, (h.row i hi).2]⟩, h.inj, by have := h.lo1; omega, fun i hi => ⟨by have := (h.lo2 i hi).1; omega, (h.lo2 i hi).2⟩⟩
theorem TabH.snoc {H H' : Heap} {ob ob' r : Nat} {ex ex' : Bool} {cs cs' : List SV} {nm : Nat → Nat} {M : List (List Int)} {L : List Int} (h : TabH H ob ex cs nm M) (ho : H'.map ob' = some ⟨cs', ex'⟩) (hr : H'.map r = some ⟨ints L, true⟩)
    (hcs : ∀ i, i < M.length → cs'[i]? = cs[i]?) (hc : cs'[M.length]? = some (.own r 0 L.length L.length 1 true))
    (hf : ∀ i, i < M.length → H'.map (nm i) = H.map (nm i)) (hn : H.nb ≤ H'.nb) (h1 : ob' < H'.nb ∧ ∀ i, i < M.length → nm i ≠ ob') (h2 : r < H'.nb ∧ r ≠ ob' ∧ ∀ i, i < M.length → nm i ≠ r) : TabH H' ob' ex' cs' (fun i => if i < M.length then nm i else r) (M ++ [L]) := by
  have hle : M.length < cs'.length := (List.getElem?_eq_some_iff.1 hc).1
  refine ⟨by simp; omega, ho, fun i hi => ?_, fun i j hi hj hij => ?_, h1.1, fun i hi => ?_⟩
  · by_cases hlt : i < M.length
    · obtain ⟨g1, g2⟩ := h.row i hlt
      exact ⟨by rw [hcs i hlt, g1, mrow_lt hlt, if_pos hlt], by rw [if_pos hlt, mrow_lt hlt, hf i hlt, g2]⟩
    · have : i = M.length := by simp at hi; omega
      subst this
      exact ⟨by rw [hc, mrow_at, if_neg (by omega)], by rw [if_neg (by omega), mrow_at, hr]⟩
  · simp only [List.length_append, List.length_singleton] at hi hj
    by_cases a : i < M.length <;> by_cases b : j < M.length
    · simp only [a, b, if_true] at hij; exact h.inj i j a b hij
    · simp only [a, b, if_true, if_false] at hij
      exact absurd hij (h2.2.2 i a)
    · simp only [a, b, if_true, if_false] at hij
      exact absurd hij.symm (h2.2.2 j b)
    · omega
  · simp only [List.length_append, List.length_singleton] at hi
    show (if i < M.length then nm i else r) < H'.nb ∧ (if i < M.length then nm i else r) ≠ ob'
    split
    · rename_i a
      exact ⟨by have := (h.lo2 i a).1; omega, h1.2 i a⟩
    · exact ⟨h2.1, h2.2.1⟩
theorem TabH.set {H : Heap} {ob i k : Nat} {ex : Bool} {cs : List SV} {nm : Nat → Nat} {M : List (List Int)} {x : Int} (h : TabH H ob ex cs nm M) (hi : i < M.length) : TabH (H.set (nm i) (some ⟨ints ((mrow M i).set k x), true⟩)) ob ex cs nm (mset M i k x) := by
  have hl : (mset M i k x).length = M.length := mset_length ..
  have hi2 := h.lo2 i hi
  refine ⟨by rw [hl]; exact h.ln, by rw [ze, if_neg (fun e => hi2.2 e.symm), h.o], fun j hj => ?_, fun a b ha hb => h.inj a b (by omega) (by omega), h.lo1, fun j hj => h.lo2 j (by omega)⟩
  rw [hl] at hj
  obtain ⟨h1, h2⟩ := h.row j hj
  by_cases hji : j = i
  · subst hji
    rw [mset_row_eq hi, List.length_set]
    exact ⟨h1, by rw [ze, if_pos rfl]⟩
  · rw [mset_row_ne hji]
    exact ⟨h1, by rw [ze, if_neg (fun g => hji (h.inj _ _ hj hi g)), h2]⟩
theorem TabH.view {H : Heap} {ob : Nat} {ex : Bool} {cs : List SV} {nm : Nat → Nat} {M : List (List Int)} {f cap : Nat} {e : Bool} (h : TabH H ob ex cs nm M) (hl : cs.length = M.length) : Sh.view H (f + 2) (.own ob 0 M.length cap 1 e) = some (rr M) := by
  have hL : viewL H (f + 1) cs = some (rows M) := by
    have hr : ∀ i, i < M.length → ∃ s, cs[i]? = some s ∧ Sh.view H (f + 1) s = some (ri (mrow M i)) := fun i hi => by
      obtain ⟨h1, h2⟩ := h.row i hi
      exact ⟨_, h1, view_own (L := mrow M i) (e2 := true) h2 rfl⟩
    clear h
    induction cs generalizing M with
    | nil =>
      have : M = [] := List.length_eq_zero_iff.1 hl.symm
      subst this
      exact z7
    | cons s cs ih =>
      cases M with
      | nil => simp at hl
      | cons L M =>
        refine z6 ?_ (ih (M := M) (by simpa using hl) (fun i hi => ?_))
        · obtain ⟨s', h1, h2⟩ := hr 0 (by simp)
          simp at h1; subst h1
          exact h2
        · obtain ⟨s', h1, h2⟩ := hr (i + 1) (by simpa using hi)
          exact ⟨s', by simpa using h1, h2⟩
  simp only [Sh.view, h.o, Nat.mul_one, List.drop_zero]
  rw [if_pos (by omega), ← hl, List.take_length, hL]
  simp only [rr, hl]
open Classical in
theorem fin_tab {H : Heap} {ob cap : Nat} {ex e : Bool} {cs : List SV} {nm : Nat → Nat} {M : List (List Int)} (h : TabH H ob ex cs nm M) (hl : cs.length = M.length) : Fin (fun r H => Sh.view H 3 r = some (rr M)) (.own ob 0 M.length cap 1 e) H := by
  let p : Nat → Prop := fun b => b = ob ∨ (∃ i, i < M.length ∧ b = nm i)
  have h2 : TabH (part H p) ob ex cs nm M := h.frN (Nat.le_refl _) (part_map (.inl rfl)) (fun i hi => part_map (.inr ⟨i, hi, rfl⟩))
  refine ⟨part H p, part_sub H p, rfl, fun b blk hb => ?_, h2.view (f := 1) hl⟩
  have hb' : (if p b then H.map b else none) = some blk := hb
  split at hb'
  · rename_i hp
    rcases hp with rfl | ⟨i, hi, rfl⟩
    · rw [h.o] at hb'; simp at hb'; subst hb'
      refine noRowL_of fun s hs => ?_
      obtain ⟨i, hi, rfl⟩ := List.getElem_of_mem hs
      have hi' : i < cs.length := hi
      obtain ⟨h1, _⟩ := h.row i (by omega)
      rw [List.getElem?_eq_getElem hi] at h1
      simp at h1
      rw [h1]; rfl
    · rw [(h.row i hi).2] at hb'; simp at hb'; subst hb'; exact noRowL_ints _
  · simp at hb'
def edR (a b : List UInt8) (i k : Nat) : List Int := (List.range (b.length + 1)).map fun j => if j < k then (ed a b i j : Int) else 0
theorem edR_length (a b : List UInt8) (i k : Nat) : (edR a b i k).length = b.length + 1 := by simp [edR]
theorem edR_at {a b : List UInt8} {i k j : Nat} (h : j < k) (hj : j ≤ b.length) : (edR a b i k).getD j 0 = (ed a b i j : Int) := by
  simp [edR, List.getD, (by omega : j < b.length + 1), h]
theorem edR_0 (a b : List UInt8) (i : Nat) : edR a b i 0 = List.replicate (b.length + 1) 0 := by
  apply List.ext_getElem?
  intro j
  simp only [edR, List.getElem?_map, List.getElem?_replicate]
  by_cases h : j < b.length + 1
  · rw [List.getElem?_range h, if_pos h]; simp
  · rw [List.getElem?_eq_none (by simp; omega), if_neg h]; rfl
theorem edR_set {a b : List UInt8} {i k : Nat} (hk : k ≤ b.length) : (edR a b i k).set k (ed a b i k : Int) = edR a b i (k + 1) := by
  apply List.ext_getElem?
  intro j
  rw [List.getElem?_set]
  by_cases hjk : k = j
  · subst hjk
    rw [if_pos rfl, if_pos (by rw [edR_length]; omega)]
    simp [edR, (by omega : k < b.length + 1)]
  · rw [if_neg hjk]
    simp only [edR, List.getElem?_map]
    by_cases hr : j < b.length + 1
    · rw [List.getElem?_range hr]
      simp only [Option.map_some, Option.some.injEq]
      by_cases h1 : j < k
      · rw [if_pos h1, if_pos (by omega)]
      · rw [if_neg h1, if_neg (by omega)]
    · rw [List.getElem?_eq_none (by simp; omega)]; rfl
def eRow (a b : List UInt8) (i : Nat) : List Int := edR a b i (b.length + 1)
def eM (a b : List UInt8) (i : Nat) : List (List Int) := (List.range i).map (eRow a b)
theorem eM_length (a b : List UInt8) (i : Nat) : (eM a b i).length = i := by simp [eM]
theorem eM_row {a b : List UInt8} {i r : Nat} (h : r < i) : mrow (eM a b i) r = eRow a b r := by simp [eM, mrow, h]
theorem eM_succ (a b : List UInt8) (i : Nat) : eM a b (i + 1) = eM a b i ++ [eRow a b i] := by simp [eM, List.range_succ]
theorem eRow_at {a b : List UInt8} {i j : Nat} (hj : j ≤ b.length) : (eRow a b i).getD j 0 = (ed a b i j : Int) := edR_at (by omega) hj
end Go.Sh

/-
  The edit distance: the reference's table.
-/
namespace Go.Sh
open Go Go.Proofs

theorem ints_setE (L : List Int) (k : Nat) (v : Int) : (ints L).set k (.val (.int .i64 v)) = ints (L.set k v) := by simp [ints]
set_option maxRecDepth 20000 in
set_option maxHeartbeats 16000000 in
theorem Tryz.l4Table_ok (a b : List UInt8) (ha : a.length ≤ 40) (hb : b.length ≤ 40) : PCall Tryz.prog 203 [str a, str b, .val (.bool false)] (rr (eM a b (a.length + 1))) := by
  refine FCall.pcall (R := fun r H => Sh.view H 3 r = some (rr (eM a b (a.length + 1)))) ?_ 3 (fun _ _ h => h)
  refine FCall.of_body Tryz.func203 rfl (by kernel_rfl) (by simp [Tryz.ntmps203]) ?_
  refine SW_of_vc Tryz.mixed _ _ _ (by kernel_rfl) ?_
  simp (disch := omega) only [go_sem]
  refine LoopW.loop (fun y : Nat × Nat × List SV × (Nat → Nat) × Heap => ⟨ofL [(0, str a), (1, str b), (2, .val (.bool false)), (7, .own y.2.1 0 y.1 y.1 1 false), (8, .val (.int .i64 y.1))], y.2.2.2.2⟩)
    (fun y => y.1 ≤ a.length + 1 ∧ y.2.2.1.length = y.1 ∧ TabH y.2.2.2.2 y.2.1 false y.2.2.1 y.2.2.2.1 (eM a b y.1)) (fun y => a.length + 1 - y.1) (0, 0, [], fun _ => 0, (hp [] 0).push ⟨[], false⟩)
    ⟨by simp, rfl, ⟨by simp [eM], by show ((hp [] 0).push _).map 0 = _; rw [zb]; rfl, fun i hi => absurd hi (by simp [eM]), fun i j hi => absurd hi (by simp [eM]), by show 0 < ((hp [] 0).push _).nb; rw [za]; show 0 < 0 + 1; omega, fun i hi => absurd hi (by simp [eM])⟩⟩ (Wk.of (by simp only [go_sem, ↓List.forall_mem_cons, List.not_mem_nil, false_implies, implies_true, and_true, true_and, and_self, ri_eq, Int.natCast_add, Int.cast_ofNat_Int]; try simp) rfl) ?_
  rintro ⟨i, ob, cs, nm, H⟩ ⟨hi, hcl, hM⟩
  simp only at hi hcl hM
  refine SW_of_vc Tryz.mixed _ _ _ (by kernel_rfl) ?_
  by_cases hlt : i ≤ a.length
  · have hrep : List.replicate (b.length + 1) (SV.val (.int .i64 0)) = ints (edR a b i 0) := by rw [edR_0]; simp [ints]
    have hbl : (b.length : Int) + 1 = ((b.length + 1 : Nat) : Int) := by omega
    simp (disch := omega) only [go_sem, hbl, hrep]
    have hlo := hM.lo1
    have hM0 : TabH (H.push ⟨ints (edR a b i 0), true⟩) ob false cs nm (eM a b i) := hM.frN (by rw [za]; omega) (by rw [zb, if_neg (by omega)]) (fun r hr => by rw [zb, if_neg (by have := (hM.lo2 r hr).1; omega)])
    have hlo2 : ∀ r, r < (eM a b i).length → nm r < H.nb ∧ nm r ≠ ob := hM.lo2
    refine LoopW.loop (fun y : Nat × Heap => ⟨ofL [(0, str a), (1, str b), (2, .val (.bool false)), (7, .own ob 0 i i 1 false), (8, .val (.int .i64 i)), (9, .own H.nb 0 (b.length + 1) (b.length + 1) 1 true), (10, .val (.int .i64 y.1))], y.2⟩)
      (fun y => y.1 ≤ b.length + 1 ∧ TabH y.2 ob false cs nm (eM a b i) ∧ y.2.map H.nb = some ⟨ints (edR a b i y.1), true⟩ ∧ H.nb < y.2.nb) (fun y => b.length + 1 - y.1) (0, H.push ⟨ints (edR a b i 0), true⟩)
      ⟨by simp, hM0, by rw [zb, if_pos rfl], by rw [za]; omega⟩ (Wk.of (by simp only [go_sem, ↓List.forall_mem_cons, List.not_mem_nil, false_implies, implies_true, and_true, true_and, and_self, ri_eq, Int.natCast_add, Int.cast_ofNat_Int]; try simp) rfl) ?_
    rintro ⟨j, H1⟩ ⟨hj, hM1, hm1, hn1⟩
    simp only at hj hM1 hm1 hn1
    refine SW_of_vc Tryz.mixed _ _ _ (by kernel_rfl) ?_
    by_cases hjl : j ≤ b.length
    · have hil : (ints (edR a b i j)).length = b.length + 1 := by rw [zh, edR_length]
      have hset : (ints (edR a b i j)).set j (.val (.int .i64 (ed a b i j : Int))) = ints (edR a b i (j + 1)) := by rw [ints_setE, edR_set hjl]
      have fin : TabH (H1.set H.nb (some ⟨ints (edR a b i (j + 1)), true⟩)) ob false cs nm (eM a b i) := hM1.frN (Nat.le_refl _) (by rw [ze, if_neg (by omega)]) (fun r hr => by rw [ze, if_neg (by have := (hlo2 r hr).1; omega)])
      have fin2 : (H1.set H.nb (some ⟨ints (edR a b i (j + 1)), true⟩)).map H.nb = some ⟨ints (edR a b i (j + 1)), true⟩ := by rw [ze, if_pos rfl]
      by_cases h0 : i = 0
      · have e1 : ((i : Int) == 0) = true := by rw [h0]; rfl
        rw [h0, ed_0, ← h0] at hset
        simp (disch := omega) only [go_sem, e1, hm1, hil, hset]
        exact ⟨(j + 1, _), ⟨by show j + 1 ≤ b.length + 1; omega, fin, fin2, hn1⟩, by show b.length + 1 - (j + 1) < b.length + 1 - j; omega, Wk.of (by simp only [go_sem, ↓List.forall_mem_cons, List.not_mem_nil, false_implies, implies_true, and_true, true_and, and_self, ri_eq, Int.natCast_add, Int.cast_ofNat_Int]; try simp) rfl⟩
      · have e1 : ((i : Int) == 0) = false := by rw [beq_eq_false_iff_ne]; omega
        by_cases hj0 : j = 0
        · have e2 : ((j : Int) == 0) = true := by rw [hj0]; rfl
          rw [show ed a b i j = i by rw [hj0, ed_r0]] at hset
          simp (disch := omega) only [go_sem, e1, e2, hm1, hil, hset]
          exact ⟨(j + 1, _), ⟨by show j + 1 ≤ b.length + 1; omega, fin, fin2, hn1⟩, by show b.length + 1 - (j + 1) < b.length + 1 - j; omega, Wk.of (by simp only [go_sem, ↓List.forall_mem_cons, List.not_mem_nil, false_implies, implies_true, and_true, true_and, and_self, ri_eq, Int.natCast_add, Int.cast_ofNat_Int]; try simp) rfl⟩
        · have e2 : ((j : Int) == 0) = false := by rw [beq_eq_false_iff_ne]; omega
          obtain ⟨i', hi'⟩ : ∃ i', i = i' + 1 := ⟨i - 1, by omega⟩
          obtain ⟨j', hj'⟩ : ∃ j', j = j' + 1 := ⟨j - 1, by omega⟩
          have ci : (i : Int) - 1 = (i' : Int) := by omega
          have cj : (j : Int) - 1 = (j' : Int) := by omega
          have ia := sb_ix (s := a) (i := i') (by omega)
          have ib := sb_ix (s := b) (i := j') (by omega)
          obtain ⟨r1, r2⟩ := hM1.row i' (by rw [eM_length]; omega)
          rw [eM_row (by omega), eRow, edR_length] at r1
          rw [eM_row (by omega)] at r2
          have ho := hM1.o
          have gl : (ints (eRow a b i')).length = b.length + 1 := by rw [zh, eRow, edR_length]
          have g1 : (ints (eRow a b i'))[j']? = some (.val (.int .i64 (ed a b i' j' : Int))) := by rw [ints_get (by rw [eRow, edR_length]; omega), eRow_at (by omega)]
          have g2 : (ints (eRow a b i'))[j]? = some (.val (.int .i64 (ed a b i' j : Int))) := by rw [ints_get (by rw [eRow, edR_length]; omega), eRow_at hjl]
          have g3 : (ints (edR a b i j))[j']? = some (.val (.int .i64 (ed a b i j' : Int))) := by rw [ints_get (by rw [edR_length]; omega), edR_at (by omega) (by omega)]
          by_cases he : a.getD i' 0 = b.getD j' 0
          · have e3 := u8_eq he
            rw [show ed a b i j = ed a b i' j' by rw [hi', hj', ed_eq he]] at hset
            simp (disch := omega) only [go_sem, e1, e2, ci, cj, ia, ib, e3, ho, hcl, r1, r2, gl, g1, hm1, hil, hset]
            exact ⟨(j + 1, _), ⟨by show j + 1 ≤ b.length + 1; omega, fin, fin2, hn1⟩, by show b.length + 1 - (j + 1) < b.length + 1 - j; omega, Wk.of (by simp only [go_sem, ↓List.forall_mem_cons, List.not_mem_nil, false_implies, implies_true, and_true, true_and, and_self, ri_eq, Int.natCast_add, Int.cast_ofNat_Int]; try simp) rfl⟩
          · have e3 := u8_ne he
            have hv := ed_ne (a := a) (b := b) (i := i') (j := j') he
            have q1 := ed_le a b i' (j' + 1)
            have q2 := ed_le a b (i' + 1) j'
            have q3 := ed_le a b i' j'
            rw [← hi', ← hj'] at hv
            rw [← hj'] at q1
            rw [← hi'] at q2
            generalize ed a b i' j = x at *
            generalize ed a b i j' = y at *
            generalize ed a b i' j' = z at *
            generalize ed a b i j = v at *
            rcases (by omega : (x ≤ y ∧ x ≤ z) ∨ (y < x ∧ y ≤ z) ∨ (z < x ∧ z < y)) with hc | hc | hc
            · have hv2 : (1 : Int) + (x : Int) = (v : Int) := by omega
              simp (disch := omega) only [go_sem, e1, e2, ci, cj, ia, ib, e3, ho, hcl, r1, r2, gl, g1, g2, g3, hm1, hil, hv2, hset]
              exact ⟨(j + 1, _), ⟨by show j + 1 ≤ b.length + 1; omega, fin, fin2, hn1⟩, by show b.length + 1 - (j + 1) < b.length + 1 - j; omega, Wk.of (by simp only [go_sem, ↓List.forall_mem_cons, List.not_mem_nil, false_implies, implies_true, and_true, true_and, and_self, ri_eq, Int.natCast_add, Int.cast_ofNat_Int]; try simp) rfl⟩
            · have hv2 : (1 : Int) + (y : Int) = (v : Int) := by omega
              simp (disch := omega) only [go_sem, e1, e2, ci, cj, ia, ib, e3, ho, hcl, r1, r2, gl, g1, g2, g3, hm1, hil, hv2, hset]
              exact ⟨(j + 1, _), ⟨by show j + 1 ≤ b.length + 1; omega, fin, fin2, hn1⟩, by show b.length + 1 - (j + 1) < b.length + 1 - j; omega, Wk.of (by simp only [go_sem, ↓List.forall_mem_cons, List.not_mem_nil, false_implies, implies_true, and_true, true_and, and_self, ri_eq, Int.natCast_add, Int.cast_ofNat_Int]; try simp) rfl⟩
            · have hv2 : (1 : Int) + (z : Int) = (v : Int) := by omega
              simp (disch := omega) only [go_sem, e1, e2, ci, cj, ia, ib, e3, ho, hcl, r1, r2, gl, g1, g2, g3, hm1, hil, hv2, hset]
              exact ⟨(j + 1, _), ⟨by show j + 1 ≤ b.length + 1; omega, fin, fin2, hn1⟩, by show b.length + 1 - (j + 1) < b.length + 1 - j; omega, Wk.of (by simp only [go_sem, ↓List.forall_mem_cons, List.not_mem_nil, false_implies, implies_true, and_true, true_and, and_self, ri_eq, Int.natCast_add, Int.cast_ofNat_Int]; try simp) rfl⟩
    · obtain rfl : j = b.length + 1 := by omega
      have ho := hM1.o
      have hcT : cs.take i = cs := List.take_of_length_le (by omega)
      simp (disch := omega) only [go_sem, ho, hcl, hcT, ze, zc, zb, za]
      have hlo1 := hM1.lo1
      have hn2 : ∀ r, r < (eM a b i).length → nm r < H1.nb := fun r hr => (hM1.lo2 r hr).1
      have hge : ∀ r, r < (eM a b i).length → nm r ≠ ob := fun r hr => (hM1.lo2 r hr).2
      have hne : ∀ r, r < (eM a b i).length → nm r ≠ H.nb := fun r hr => by have := (hlo2 r hr).1; omega
      have hel := eM_length a b i
      refine ⟨(i + 1, H1.nb + 1, cs ++ [.own H.nb 0 (b.length + 1) (b.length + 1) 1 true], fun r => if r < (eM a b i).length then nm r else H.nb, _), ⟨by show i + 1 ≤ a.length + 1; omega, by show (cs ++ [_]).length = i + 1; simp [hcl], ?_⟩, by show a.length + 1 - (i + 1) < a.length + 1 - i; omega, Wk.of (by simp only [go_sem, ↓List.forall_mem_cons, List.not_mem_nil, false_implies, implies_true, and_true, true_and, and_self, ri_eq, Int.natCast_add, Int.cast_ofNat_Int]; try simp) rfl⟩
      show TabH _ (H1.nb + 1) false (cs ++ [.own H.nb 0 (b.length + 1) (b.length + 1) 1 true]) (fun r => if r < (eM a b i).length then nm r else H.nb) (eM a b (i + 1))
      rw [eM_succ]
      refine hM1.snoc (r := H.nb) (L := eRow a b i) ?_ ?_ (fun r hr => ?_) ?_ (fun r hr => ?_) ?_ ⟨?_, fun r hr => ?_⟩ ⟨?_, by omega, hne⟩
      · simp (disch := omega) only [ze, zb, zc, za, if_pos, if_neg, ↓reduceIte]
      · simp (disch := omega) only [ze, zb, zc, za, if_pos, if_neg, ↓reduceIte]
        exact hm1
      · rw [List.getElem?_append_left (by omega)]
      · rw [hel, List.getElem?_append_right (by omega), hcl, Nat.sub_self, eRow, edR_length]; rfl
      · have := hn2 r hr
        have := hge r hr
        simp (disch := omega) only [ze, zb, zc, za, if_neg, ↓reduceIte]
      · simp only [zc, za]; omega
      · simp only [zc, za]; omega
      · have := hn2 r hr; omega
      · simp only [zc, za]; omega
  · obtain rfl : i = a.length + 1 := by omega
    simp (disch := omega) only [go_sem]
    have := fin_tab (cap := a.length + 1) (e := false) hM (by rw [eM_length]; exact hcl)
    rw [eM_length] at this
    exact this
end Go.Sh

/-
  The sound of words: contracts.
-/
namespace Go.Sh
open Go Go.Proofs

def scV : List SV := scTab.map fun c => SV.val (.int .i64 c)
theorem Tryz.globC (σ : Slots) : globO (.global 0) (sval σ (.global 0)) = .rptr scV 0 := globO_global (vs := scTab.map fun c => Value.int .i64 c) rfl σ
attribute [go_sem] Tryz.globC
theorem scV_load {k : Nat} (h : k < 26) : scV[k]? = some (.val (.int .i64 (scTab.getD k 0))) := by
  have hl : k < scTab.length := h
  simp [scV, hl]
theorem scV_len : scV.length = 26 := rfl
set_option maxHeartbeats 4000000 in
theorem Tryz.implSC_ok (c : UInt8) (h : (isSm c || isDg c) = true) : PCall Tryz.prog 194 [.val (.int .u8 c.toNat)] (.val (.int .i64 (scode c))) := by
  refine FCall.pcall (R := fun r _ => r = .val (.int .i64 (scode c))) ?_ 0 (by rintro r H rfl; exact z8)
  have w := Tryz.isSmall_ok c
  refine FCall.of_body Tryz.func194 rfl (by kernel_rfl) (by simp [Tryz.ntmps194]) ?_
  refine SW_of_vc Tryz.mixed _ _ _ (by kernel_rfl) ?_
  cases hs : isSm c with
  | true =>
    rw [hs] at w
    have hb := sm_b hs
    have hk : (c.toNat : Int) - 97 = ((c.toNat - 97 : Nat) : Int) := by omega
    have hld := scV_load (k := c.toNat - 97) (by omega)
    have hwr : IntKind.u8.wrap ((c.toNat - 97 : Nat) : Int) = ((c.toNat - 97 : Nat) : Int) := wrap8_id (by omega) (by omega)
    rw [scode, if_pos hs]
    simp (disch := omega) only [go_sem, hk, hwr, hld, scV_len]
    refine w.callV 0 (z6 (z8) z7) ?_
    simp (disch := omega) only [go_sem, hk, hwr, hld, scV_len]
    exact Fin.val rfl
  | false =>
    rw [hs] at w h
    have hb := dg_b (by simpa using h)
    rw [scode_f hs]
    simp (disch := omega) only [go_sem]
    refine w.callV 0 (z6 (z8) z7) ?_
    simp (disch := omega) only [go_sem]
    exact Fin.val rfl
theorem u8q97 (c : UInt8) : (c == 97) = decide (c.toNat = 97) := by rw [Bool.eq_iff_iff, beq_iff_eq, decide_eq_true_eq, ← UInt8.toNat_inj]; rfl
theorem u8q98 (c : UInt8) : (c == 98) = decide (c.toNat = 98) := by rw [Bool.eq_iff_iff, beq_iff_eq, decide_eq_true_eq, ← UInt8.toNat_inj]; rfl
theorem u8q99 (c : UInt8) : (c == 99) = decide (c.toNat = 99) := by rw [Bool.eq_iff_iff, beq_iff_eq, decide_eq_true_eq, ← UInt8.toNat_inj]; rfl
theorem u8q100 (c : UInt8) : (c == 100) = decide (c.toNat = 100) := by rw [Bool.eq_iff_iff, beq_iff_eq, decide_eq_true_eq, ← UInt8.toNat_inj]; rfl
theorem u8q101 (c : UInt8) : (c == 101) = decide (c.toNat = 101) := by rw [Bool.eq_iff_iff, beq_iff_eq, decide_eq_true_eq, ← UInt8.toNat_inj]; rfl
theorem u8q102 (c : UInt8) : (c == 102) = decide (c.toNat = 102) := by rw [Bool.eq_iff_iff, beq_iff_eq, decide_eq_true_eq, ← UInt8.toNat_inj]; rfl
theorem u8q103 (c : UInt8) : (c == 103) = decide (c.toNat = 103) := by rw [Bool.eq_iff_iff, beq_iff_eq, decide_eq_true_eq, ← UInt8.toNat_inj]; rfl
theorem u8q104 (c : UInt8) : (c == 104) = decide (c.toNat = 104) := by rw [Bool.eq_iff_iff, beq_iff_eq, decide_eq_true_eq, ← UInt8.toNat_inj]; rfl
theorem u8q105 (c : UInt8) : (c == 105) = decide (c.toNat = 105) := by rw [Bool.eq_iff_iff, beq_iff_eq, decide_eq_true_eq, ← UInt8.toNat_inj]; rfl
theorem u8q106 (c : UInt8) : (c == 106) = decide (c.toNat = 106) := by rw [Bool.eq_iff_iff, beq_iff_eq, decide_eq_true_eq, ← UInt8.toNat_inj]; rfl
theorem u8q107 (c : UInt8) : (c == 107) = decide (c.toNat = 107) := by rw [Bool.eq_iff_iff, beq_iff_eq, decide_eq_true_eq, ← UInt8.toNat_inj]; rfl
theorem u8q108 (c : UInt8) : (c == 108) = decide (c.toNat = 108) := by rw [Bool.eq_iff_iff, beq_iff_eq, decide_eq_true_eq, ← UInt8.toNat_inj]; rfl
theorem u8q109 (c : UInt8) : (c == 109) = decide (c.toNat = 109) := by rw [Bool.eq_iff_iff, beq_iff_eq, decide_eq_true_eq, ← UInt8.toNat_inj]; rfl
theorem u8q110 (c : UInt8) : (c == 110) = decide (c.toNat = 110) := by rw [Bool.eq_iff_iff, beq_iff_eq, decide_eq_true_eq, ← UInt8.toNat_inj]; rfl
theorem u8q111 (c : UInt8) : (c == 111) = decide (c.toNat = 111) := by rw [Bool.eq_iff_iff, beq_iff_eq, decide_eq_true_eq, ← UInt8.toNat_inj]; rfl
theorem u8q112 (c : UInt8) : (c == 112) = decide (c.toNat = 112) := by rw [Bool.eq_iff_iff, beq_iff_eq, decide_eq_true_eq, ← UInt8.toNat_inj]; rfl
theorem u8q113 (c : UInt8) : (c == 113) = decide (c.toNat = 113) := by rw [Bool.eq_iff_iff, beq_iff_eq, decide_eq_true_eq, ← UInt8.toNat_inj]; rfl
theorem u8q114 (c : UInt8) : (c == 114) = decide (c.toNat = 114) := by rw [Bool.eq_iff_iff, beq_iff_eq, decide_eq_true_eq, ← UInt8.toNat_inj]; rfl
theorem u8q115 (c : UInt8) : (c == 115) = decide (c.toNat = 115) := by rw [Bool.eq_iff_iff, beq_iff_eq, decide_eq_true_eq, ← UInt8.toNat_inj]; rfl
theorem u8q116 (c : UInt8) : (c == 116) = decide (c.toNat = 116) := by rw [Bool.eq_iff_iff, beq_iff_eq, decide_eq_true_eq, ← UInt8.toNat_inj]; rfl
theorem u8q117 (c : UInt8) : (c == 117) = decide (c.toNat = 117) := by rw [Bool.eq_iff_iff, beq_iff_eq, decide_eq_true_eq, ← UInt8.toNat_inj]; rfl
theorem u8q118 (c : UInt8) : (c == 118) = decide (c.toNat = 118) := by rw [Bool.eq_iff_iff, beq_iff_eq, decide_eq_true_eq, ← UInt8.toNat_inj]; rfl
theorem u8q119 (c : UInt8) : (c == 119) = decide (c.toNat = 119) := by rw [Bool.eq_iff_iff, beq_iff_eq, decide_eq_true_eq, ← UInt8.toNat_inj]; rfl
theorem u8q120 (c : UInt8) : (c == 120) = decide (c.toNat = 120) := by rw [Bool.eq_iff_iff, beq_iff_eq, decide_eq_true_eq, ← UInt8.toNat_inj]; rfl
theorem u8q121 (c : UInt8) : (c == 121) = decide (c.toNat = 121) := by rw [Bool.eq_iff_iff, beq_iff_eq, decide_eq_true_eq, ← UInt8.toNat_inj]; rfl
theorem u8q122 (c : UInt8) : (c == 122) = decide (c.toNat = 122) := by rw [Bool.eq_iff_iff, beq_iff_eq, decide_eq_true_eq, ← UInt8.toNat_inj]; rfl
set_option maxRecDepth 20000 in
set_option maxHeartbeats 16000000 in
theorem Tryz.specSC_ok (c : UInt8) (h : (isSm c || isDg c) = true) : PCall Tryz.prog 164 [.val (.int .u8 c.toNat)] (.val (.int .i64 (scode c))) := by
  refine FCall.pcall (R := fun r _ => r = .val (.int .i64 (scode c))) ?_ 0 (by rintro r H rfl; exact z8)
  have w := Tryz.specFold_ok [c] (by simp)
  rw [List.map_cons, List.map_nil, fc_no (tkc_nc h)] at w
  have hc := h
  clear h
  refine FCall.of_body Tryz.func164 rfl (by kernel_rfl) (by simp [Tryz.ntmps164]) ?_
  refine SW.seqW ⟨ofL [(0, .val (.int .u8 c.toNat))], hp [] 0⟩ ?_ ?_
  · refine SW_of_vc Tryz.mixed _ _ _ (by kernel_rfl) ?_
    simp (disch := omega) only [go_sem]
    exact Wk.of (by simp only [go_sem, ↓List.forall_mem_cons, List.not_mem_nil, false_implies, implies_true, and_true, true_and, and_self, ri_eq, Int.natCast_add, Int.cast_ofNat_Int]; try simp) rfl
  refine SW.seqI (fun _ : Unit => ⟨ofL [], hp [] 1⟩) (fun _ => scode c = -2) ?_ ?_
  · refine SW.seqW ⟨ofL [(6, str [c])], hp [] 1⟩ ?_ ?_
    · refine SW_of_vc Tryz.mixed _ _ _ (by kernel_rfl) ?_
      simp (disch := omega) only [go_sem, UInt8.ofNat_toNat]
      refine w.callV 0 (z6 zd z7) ?_
      simp (disch := omega) only [go_sem, UInt8.ofNat_toNat]
      exact Wk.ofH (by simp only [go_sem, ↓List.forall_mem_cons, List.not_mem_nil, false_implies, implies_true, and_true, true_and, and_self, ri_eq, Int.natCast_add, Int.cast_ofNat_Int]; try simp) (by simp) (by simp [hp])
    refine SW_of_vc Tryz.mixed _ _ _ (by kernel_rfl) ?_
    clear w
    cases hs : isSm c with
    | true =>
      have hb := sm_b hs
      have hv : c.toNat = 97 ∨ c.toNat = 98 ∨ c.toNat = 99 ∨ c.toNat = 100 ∨ c.toNat = 101 ∨ c.toNat = 102 ∨ c.toNat = 103 ∨ c.toNat = 104 ∨ c.toNat = 105 ∨ c.toNat = 106 ∨ c.toNat = 107 ∨ c.toNat = 108 ∨ c.toNat = 109 ∨ c.toNat = 110 ∨ c.toNat = 111 ∨ c.toNat = 112 ∨ c.toNat = 113 ∨ c.toNat = 114 ∨ c.toNat = 115 ∨ c.toNat = 116 ∨ c.toNat = 117 ∨ c.toNat = 118 ∨ c.toNat = 119 ∨ c.toNat = 120 ∨ c.toNat = 121 ∨ c.toNat = 122 := by omega
      rw [scode, if_pos hs]
      rcases hv with hv | hv | hv | hv | hv | hv | hv | hv | hv | hv | hv | hv | hv | hv | hv | hv | hv | hv | hv | hv | hv | hv | hv | hv | hv | hv
      all_goals
        simp (disch := omega) only [go_sem, List.cons_beq_cons, beq_self_eq_true, u8q97, u8q98, u8q99, u8q100, u8q101, u8q102, u8q103, u8q104, u8q105, u8q106, u8q107, u8q108, u8q109, u8q110, u8q111, u8q112, u8q113, u8q114, u8q115, u8q116, u8q117, u8q118, u8q119, u8q120, u8q121, u8q122]
        exact Fin.val (by rw [hv]; rfl)
    | false =>
      have hb := dg_b (by rw [hs, Bool.false_or] at hc; exact hc)
      simp (disch := omega) only [go_sem, List.cons_beq_cons, beq_self_eq_true, u8q97, u8q98, u8q99, u8q100, u8q101, u8q102, u8q103, u8q104, u8q105, u8q106, u8q107, u8q108, u8q109, u8q110, u8q111, u8q112, u8q113, u8q114, u8q115, u8q116, u8q117, u8q118, u8q119, u8q120, u8q121, u8q122]
      exact ⟨(), scode_f hs, Wk.of (by simp only [go_sem, ↓List.forall_mem_cons, List.not_mem_nil, false_implies, implies_true, and_true, true_and, and_self, ri_eq, Int.natCast_add, Int.cast_ofNat_Int]; try simp) rfl⟩
  rintro _ h2
  rw [h2]
  refine SW_of_vc Tryz.mixed _ _ _ (by kernel_rfl) ?_
  simp (disch := omega) only [go_sem]
  exact Fin.val rfl
theorem sx_take {w : Wd} {k : Nat} (h1 : 1 ≤ k) (h : k < w.length) : (sx w (k + 1)).1.take 4 = if 0 < scode (w.getD k 0) ∧ scode (w.getD k 0) ≠ (sx w k).2 ∧ ((sx w k).1.take 4).length < 4 then (sx w k).1.take 4 ++ [sdg (w.getD k 0)] else (sx w k).1.take 4 := by
  rw [sx_succ h1 h, sxs]
  simp only
  by_cases ha : 0 < scode (w.getD k 0) ∧ scode (w.getD k 0) ≠ (sx w k).2
  · rw [if_pos ha]
    by_cases hl : ((sx w k).1.take 4).length < 4
    · rw [if_pos ⟨ha.1, ha.2, hl⟩]
      rw [List.length_take] at hl
      rw [List.take_append, List.take_of_length_le (l := [sdg _]) (by simp; omega)]
    · rw [if_neg (fun g => hl g.2.2)]
      rw [List.length_take] at hl
      rw [List.take_append, show 4 - (sx w k).1.length = 0 by omega, List.take_zero, List.append_nil]
  · rw [if_neg ha, if_neg (fun g => ha ⟨g.1, g.2.1⟩)]
theorem sx_snd {w : Wd} {k : Nat} (h1 : 1 ≤ k) (h : k < w.length) : (sx w (k + 1)).2 = if 0 ≤ scode (w.getD k 0) then scode (w.getD k 0) else (sx w k).2 := by rw [sx_succ h1 h, sxs]
theorem sx_fst {w : Wd} {k : Nat} (h1 : 1 ≤ k) (h : k < w.length) : (sx w (k + 1)).1 = if 0 < scode (w.getD k 0) ∧ scode (w.getD k 0) ≠ (sx w k).2 then (sx w k).1 ++ [sdg (w.getD k 0)] else (sx w k).1 := by rw [sx_succ h1 h, sxs]
theorem pad_succ {P : List UInt8} {m : Nat} (h0 : 1 ≤ P.length) (h1 : P.length ≤ m) (h2 : m < 4) : (P ++ [48, 48, 48]).take m ++ [48] = (P ++ [48, 48, 48]).take (m + 1) := by
  rw [take_at 0 (by simp; omega)]
  congr 2
  obtain ⟨d, hd⟩ : ∃ d, m = P.length + d := ⟨m - P.length, by omega⟩
  have : d = 0 ∨ d = 1 ∨ d = 2 := by omega
  subst hd
  rcases this with rfl | rfl | rfl <;> simp [List.getD]
theorem pad_0 {P : List UInt8} (h0 : 1 ≤ P.length) : P.take 4 = (P ++ [48, 48, 48]).take (P.take 4).length := by
  rw [List.take_append, List.length_take]
  by_cases h : P.length ≤ 4
  · rw [Nat.min_eq_right h, List.take_of_length_le h, List.take_of_length_le (Nat.le_refl _), Nat.sub_self, List.take_zero, List.append_nil]
  · rw [Nat.min_eq_left (by omega), show 4 - P.length = 0 by omega, List.take_zero, List.append_nil]
theorem sm_all {w : Wd} : w.all isSm = true ↔ ∀ k, k < w.length → isSm (w.getD k 0) = true := all_getD 0
theorem sdx_t {w : Wd} (h : w.all isSm = true) : sdx w = ((sx w w.length).1 ++ [48, 48, 48]).take 4 := if_pos h
theorem sdx_f {w : Wd} {k : Nat} (hk : k < w.length) (h : isSm (w.getD k 0) = false) : sdx w = [] := if_neg (fun g => by rw [sm_all.1 g k hk] at h; cases h)
set_option maxRecDepth 20000 in
set_option maxHeartbeats 16000000 in
theorem Tryz.specSdx_ok (w : Wd) (hw : w.length ≤ 1048576) (ht : isTk w = true) : PCall Tryz.prog 119 [str w] (str (sdx w)) := by
  have hl0 := List.length_pos_iff.2 (tk_ne ht)
  refine FCall.pcall (R := fun r _ => r = str (sdx w)) ?_ 0 (by rintro r H rfl; exact zd)
  refine FCall.of_body Tryz.func119 rfl (by kernel_rfl) (by simp [Tryz.ntmps119]) ?_
  refine SW_of_vc Tryz.mixed _ _ _ (by kernel_rfl) ?_
  simp (disch := omega) only [go_sem]
  refine LoopW.loop (fun y : Nat × List UInt8 × Int × Nat × Heap => ⟨ofL [(0, str w), (3, .own y.2.2.2.1 0 y.2.1.length y.2.1.length 1 false), (4, .val (.int .i64 y.2.2.1)), (5, .val (.int .i64 y.1))], y.2.2.2.2⟩)
    (fun y => y.1 ≤ w.length ∧ y.2.2.2.2.map y.2.2.2.1 = some ⟨u8c y.2.1, false⟩ ∧ y.2.2.2.1 < y.2.2.2.2.nb ∧ (∀ k, k < y.1 → isSm (w.getD k 0) = true) ∧ (y.1 = 0 → y.2.1 = []) ∧ (1 ≤ y.1 → y.2.1 = (sx w y.1).1.take 4 ∧ y.2.2.1 = (sx w y.1).2)) (fun y => w.length - y.1) (0, [], 0, 0, (hp [] 0).push ⟨[], false⟩)
    ⟨by simp, by rfl, by simp [hp, Heap.push], fun k hk => by simp at hk, fun _ => rfl, fun h => by simp at h⟩ (Wk.of (by simp only [go_sem, ↓List.forall_mem_cons, List.not_mem_nil, false_implies, implies_true, and_true, true_and, and_self, ri_eq, Int.natCast_add, Int.cast_ofNat_Int]; try simp) rfl) ?_
  rintro ⟨i, P, last, ob, H⟩ ⟨hi, hm, hob, hsm, hz, hP⟩
  simp only at hi hm hob hsm hz hP
  have hPs : (u8c P).length = P.length := u8c_length _
  have hPt : (u8c P).take P.length = u8c P := List.take_of_length_le (by omega)
  refine SW_of_vc Tryz.mixed _ _ _ (by kernel_rfl) ?_
  by_cases hlt : i < w.length
  · have hix := sb_ix hlt
    have hc := tk_c ht hlt
    have wc := Tryz.specSC_ok (w.getD i 0) hc
    have hb := u8arg (w.getD i 0)
    cases hs : isSm (w.getD i 0) with
    | false =>
      rw [scode_f hs] at wc
      rw [sdx_f hlt hs]
      simp (disch := omega) only [go_sem, hix]
      refine wc.callV 0 (z6 (z8) z7) ?_
      simp (disch := omega) only [go_sem, hix]
      exact Fin.val rfl
    | true =>
      have hsm2 : ∀ k, k < i + 1 → isSm (w.getD k 0) = true := fun k hk => by
        rcases Nat.lt_succ_iff_lt_or_eq.1 hk with g | rfl
        · exact hsm k g
        · exact hs
      have hsc := scode_t hs
      have hsn := u8c_snoc P (sdg (w.getD i 0))
      have hdn := sdg_nat hsc
      rcases Nat.eq_zero_or_pos i with rfl | hi1
      · have hp0 := hz rfl
        subst hp0
        have hsx := sx_1 w
        have wf := Tryz.specFold_ok (w.take 1) (by simp; omega)
        have hw1 : w.take 1 = [w.getD 0 0] := by rw [take_at 0 hl0]; rfl
        rw [hw1, List.map_cons, List.map_nil, fc_no (tkc_nc hc)] at wf
        have hx2 : ∀ (x : UInt8) (h : 0 < (sb [x]).size), (sb [x])[0]'h = x := fun _ _ => rfl
        have hone : [SV.val (.int .u8 ((w.getD 0 0).toNat : Int))] = u8c [w.getD 0 0] := rfl
        generalize scode (w.getD 0 0) = n at *
        simp (disch := omega) only [go_sem, hix, hw1, dite_true, hx2, hm, hPs, hPt, ze, zc, zb, za]
        refine wc.callV 0 (z6 (z8) z7) ?_
        simp (disch := omega) only [go_sem, hix, hw1, dite_true, hx2, hm, hPs, hPt, ze, zc, zb, za]
        refine wf.callV 0 (z6 zd z7) ?_
        simp (disch := omega) only [go_sem, hix, hw1, dite_true, hx2, hm, hPs, hPt, ze, zc, zb, za]
        refine ⟨(1, [w.getD 0 0], n, H.nb + 1, _), ⟨hl0, ?_, ?_, hsm2, fun g => by simp at g, fun _ => ?_⟩, by simp only; omega, Wk.of (by simp only [go_sem, ↓List.forall_mem_cons, List.not_mem_nil, false_implies, implies_true, and_true, true_and, and_self, ri_eq, Int.natCast_add, Int.cast_ofNat_Int]; try simp) rfl⟩
        · simp (disch := omega) only [ze, zb, zc, za, if_pos, if_neg, ↓reduceIte]
          first | rfl | (rw [← hone])
        · simp only [zc, za]; omega
        · rw [hsx]; exact ⟨rfl, rfl⟩
      · obtain ⟨hP1, hP2⟩ := hP hi1
        have h1 := sx_take hi1 hlt
        have h2 := sx_snd hi1 hlt
        rw [← hP1, ← hP2] at h1
        rw [← hP2] at h2
        generalize sdg (w.getD i 0) = dg at *
        generalize scode (w.getD i 0) = n at *
        have hP2l : P.length ≤ 4 := by rw [hP1, List.length_take]; omega
        by_cases c1 : 0 < n
        · rw [if_pos (by omega)] at h2 hdn
          by_cases c2 : n = last
          · rw [if_neg (fun g => g.2.1 c2)] at h1
            have e2 : (n != last) = false := by simp [c2]
            simp (disch := omega) only [go_sem, hix, e2]
            refine wc.callV 0 (z6 (z8) z7) ?_
            simp (disch := omega) only [go_sem, hix, e2]
            exact ⟨(i + 1, P, n, ob, H), ⟨hlt, hm, hob, hsm2, fun g => by simp at g, fun _ => ⟨h1.symm, h2.symm⟩⟩, by show w.length - (i + 1) < w.length - i; omega, Wk.of (by simp only [go_sem, ↓List.forall_mem_cons, List.not_mem_nil, false_implies, implies_true, and_true, true_and, and_self, ri_eq, Int.natCast_add, Int.cast_ofNat_Int]; try simp) rfl⟩
          · have e2 : (n != last) = true := by simp [c2]
            by_cases c3 : P.length < 4
            · rw [if_pos ⟨c1, c2, c3⟩] at h1
              have hwr : IntKind.u8.wrap (48 + n) = (dg.toNat : Int) := by rw [hdn]; exact wrap8_id (by omega) (by omega)
              simp (disch := omega) only [go_sem, hix, e2, hwr, hm, hPs, hPt, hsn, ze, zc, zb, za]
              refine wc.callV 0 (z6 (z8) z7) ?_
              simp (disch := omega) only [go_sem, hix, e2, hwr, hm, hPs, hPt, hsn, ze, zc, zb, za]
              have hl2 : (P ++ [dg]).length = P.length + 1 := by simp
              refine ⟨(i + 1, P ++ [dg], n, H.nb + 1, _), ⟨hlt, ?_, ?_, hsm2, fun g => by simp at g, fun _ => ⟨h1.symm, h2.symm⟩⟩, by show w.length - (i + 1) < w.length - i; omega, Wk.of (by simp only [go_sem, ↓List.forall_mem_cons, List.not_mem_nil, false_implies, implies_true, and_true, true_and, and_self, ri_eq, Int.natCast_add, Int.cast_ofNat_Int, hl2]; try simp) rfl⟩
              · simp (disch := omega) only [ze, zb, zc, za, if_pos, if_neg, ↓reduceIte]
              · simp only [zc, za]; omega
            · rw [if_neg (fun g => c3 g.2.2)] at h1
              simp (disch := omega) only [go_sem, hix, e2]
              refine wc.callV 0 (z6 (z8) z7) ?_
              simp (disch := omega) only [go_sem, hix, e2]
              exact ⟨(i + 1, P, n, ob, H), ⟨hlt, hm, hob, hsm2, fun g => by simp at g, fun _ => ⟨h1.symm, h2.symm⟩⟩, by show w.length - (i + 1) < w.length - i; omega, Wk.of (by simp only [go_sem, ↓List.forall_mem_cons, List.not_mem_nil, false_implies, implies_true, and_true, true_and, and_self, ri_eq, Int.natCast_add, Int.cast_ofNat_Int]; try simp) rfl⟩
        · rw [if_neg (fun g => c1 g.1)] at h1
          by_cases c4 : 0 ≤ n
          · rw [if_pos c4] at h2
            simp (disch := omega) only [go_sem, hix]
            refine wc.callV 0 (z6 (z8) z7) ?_
            simp (disch := omega) only [go_sem, hix]
            exact ⟨(i + 1, P, n, ob, H), ⟨hlt, hm, hob, hsm2, fun g => by simp at g, fun _ => ⟨h1.symm, h2.symm⟩⟩, by show w.length - (i + 1) < w.length - i; omega, Wk.of (by simp only [go_sem, ↓List.forall_mem_cons, List.not_mem_nil, false_implies, implies_true, and_true, true_and, and_self, ri_eq, Int.natCast_add, Int.cast_ofNat_Int]; try simp) rfl⟩
          · rw [if_neg c4] at h2
            simp (disch := omega) only [go_sem, hix]
            refine wc.callV 0 (z6 (z8) z7) ?_
            simp (disch := omega) only [go_sem, hix]
            exact ⟨(i + 1, P, last, ob, H), ⟨hlt, hm, hob, hsm2, fun g => by simp at g, fun _ => ⟨h1.symm, h2.symm⟩⟩, by show w.length - (i + 1) < w.length - i; omega, Wk.of (by simp only [go_sem, ↓List.forall_mem_cons, List.not_mem_nil, false_implies, implies_true, and_true, true_and, and_self, ri_eq, Int.natCast_add, Int.cast_ofNat_Int]; try simp) rfl⟩
  · obtain rfl : i = w.length := by omega
    obtain ⟨hP1, _⟩ := hP hl0
    have hall := sm_all.2 hsm
    have hlen := (sx_len w w.length).1
    rw [sdx_t hall]
    have hPn := pad_0 hlen
    rw [← hP1] at hPn
    have hPl : P.length = min 4 (sx w w.length).1.length := by rw [hP1, List.length_take]
    generalize (sx w w.length).1 = A at *
    clear hP hP1 hz
    simp (disch := omega) only [go_sem]
    refine LoopW.loop (fun y : List UInt8 × Nat × Heap => ⟨ofL [(3, .own y.2.1 0 y.1.length y.1.length 1 false)], y.2.2⟩)
      (fun y => y.1 = (A ++ [48, 48, 48]).take y.1.length ∧ min 4 A.length ≤ y.1.length ∧ y.1.length ≤ 4 ∧ y.2.2.map y.2.1 = some ⟨u8c y.1, false⟩ ∧ y.2.1 < y.2.2.nb) (fun y => 4 - y.1.length) (P, ob, H) ⟨hPn, by simp only; omega, by simp only; omega, hm, hob⟩ (Wk.of (by simp only [go_sem, ↓List.forall_mem_cons, List.not_mem_nil, false_implies, implies_true, and_true, true_and, and_self, ri_eq, Int.natCast_add, Int.cast_ofNat_Int]; try simp) rfl) ?_
    clear hm hob hPn hPl hPs hPt
    rintro ⟨Q, qb, H1⟩ ⟨hQ, hQ1, hQ4, hm, hob⟩
    simp only at hQ hQ1 hQ4 hm hob
    have hPs : (u8c Q).length = Q.length := u8c_length _
    have hPt : (u8c Q).take Q.length = u8c Q := List.take_of_length_le (by omega)
    refine SW_of_vc Tryz.mixed _ _ _ (by kernel_rfl) ?_
    by_cases h4 : Q.length < 4
    · have hsn := u8c_snoc Q 48
      have h48 : ((48 : UInt8).toNat : Int) = 48 := rfl
      rw [h48] at hsn
      have hst := pad_succ (P := A) (m := Q.length) hlen (by omega) h4
      rw [← hQ] at hst
      have hl2 : (Q ++ [48]).length = Q.length + 1 := by simp
      simp (disch := omega) only [go_sem, hm, hPs, hPt, hsn, ze, zc, zb, za]
      refine ⟨(Q ++ [48], H1.nb + 1, _), ⟨by simp only; rw [hl2]; exact hst, by simp only; omega, by simp only; omega, ?_, ?_⟩, by simp only; omega, Wk.of (by simp only [go_sem, ↓List.forall_mem_cons, List.not_mem_nil, false_implies, implies_true, and_true, true_and, and_self, ri_eq, Int.natCast_add, Int.cast_ofNat_Int, hl2]; try simp) rfl⟩
      · simp (disch := omega) only [ze, zb, zc, za, if_pos, if_neg, ↓reduceIte]
      · simp only [zc, za]; omega
    · have h5 : Q.length = 4 := by omega
      rw [h5] at hQ
      simp (disch := omega) only [go_sem, hm, hPs, hPt]
      exact Fin.val (by rw [hQ])
set_option maxRecDepth 20000 in
set_option maxHeartbeats 16000000 in
theorem Tryz.implSdx_ok (w : Wd) (hw : w.length ≤ 1048576) (ht : isTk w = true) : PCall Tryz.prog 144 [str w] (str (sdx w)) := by
  have hl0 := List.length_pos_iff.2 (tk_ne ht)
  have hne : (w == []) = false := beq_eq_false_iff_ne.2 (tk_ne ht)
  have hc0 := tk_c ht hl0
  have wf := Tryz.implFold_ok (w.take 1) (by simp; omega)
  have hw1 : w.take 1 = [w.getD 0 0] := by rw [take_at 0 hl0]; rfl
  rw [hw1, List.map_cons, List.map_nil, fc_no (tkc_nc hc0)] at wf
  have wc0 := Tryz.implSC_ok (w.getD 0 0) hc0
  have hix0 := sb_ix hl0
  have hb0 := u8arg (w.getD 0 0)
  have hone : u8c [w.getD 0 0] = [SV.val (.int .u8 ((w.getD 0 0).toNat : Int))] := rfl
  have hz0 : ∀ h : 0 < (sb w).size, (sb w)[0]'h = w.getD 0 0 := fun h => by simp [sb, ByteArray.getElem_eq_getElem_data, hl0]
  refine FCall.pcall (R := fun r _ => r = str (sdx w)) ?_ 0 (by rintro r H rfl; exact zd)
  refine FCall.of_body Tryz.func144 rfl (by kernel_rfl) (by simp [Tryz.ntmps144]) ?_
  refine SW_of_vc Tryz.mixed _ _ _ (by kernel_rfl) ?_
  simp (disch := omega) only [go_sem, hne, hw1]
  refine wf.callV 0 (z6 zd z7) ?_
  simp (disch := omega) only [go_sem, hne, hix0, hl0, dite_true, hz0]
  refine wc0.callV 0 (z6 (z8) z7) ?_
  simp (disch := omega) only [go_sem, hne]
  refine LoopW.loop (fun y : Nat × List UInt8 × Int × Nat × Heap => ⟨ofL [(0, str w), (3, .own y.2.2.2.1 0 y.2.1.length y.2.1.length 1 false), (4, .val (.int .i64 y.2.2.1)), (17, .val (.int .i64 w.length)), (18, .val (.int .i64 y.1))], y.2.2.2.2⟩)
    (fun y => y.1 ≤ w.length ∧ y.2.2.2.2.map y.2.2.2.1 = some ⟨u8c y.2.1, false⟩ ∧ y.2.2.2.1 < y.2.2.2.2.nb ∧ (∀ k, k < y.1 → isSm (w.getD k 0) = true) ∧ y.2.1 = (sx w y.1).1 ∧ y.2.2.1 = (sx w y.1).2) (fun y => w.length - y.1) (0, [w.getD 0 0], scode (w.getD 0 0), 0, (hp [] 0).push ⟨u8c [w.getD 0 0], false⟩)
    ⟨by simp, by rfl, by simp [hp, Heap.push], fun k hk => by simp at hk, rfl, rfl⟩ (Wk.of (by simp only [go_sem, ↓List.forall_mem_cons, List.not_mem_nil, false_implies, implies_true, and_true, true_and, and_self, ri_eq, Int.natCast_add, Int.cast_ofNat_Int]; try simp) rfl) ?_
  clear wf wc0 hix0 hb0 hone hz0 hw1
  rintro ⟨i, P, last, ob, H⟩ ⟨hi, hm, hob, hsm, hP1, hP2⟩
  simp only at hi hm hob hsm hP1 hP2
  have hPs : (u8c P).length = P.length := u8c_length _
  have hPt : (u8c P).take P.length = u8c P := List.take_of_length_le (by omega)
  refine SW_of_vc Tryz.mixed _ _ _ (by kernel_rfl) ?_
  by_cases hlt : i < w.length
  · have hix := sb_ix hlt
    have hc := tk_c ht hlt
    have wc := Tryz.implSC_ok (w.getD i 0) hc
    have hb := u8arg (w.getD i 0)
    cases hs : isSm (w.getD i 0) with
    | false =>
      rw [scode_f hs] at wc
      rw [sdx_f hlt hs]
      simp (disch := omega) only [go_sem, hix]
      refine wc.callV 0 (z6 (z8) z7) ?_
      simp (disch := omega) only [go_sem, hix]
      exact Fin.val rfl
    | true =>
      have hsm2 : ∀ k, k < i + 1 → isSm (w.getD k 0) = true := fun k hk => by
        rcases Nat.lt_succ_iff_lt_or_eq.1 hk with g | rfl
        · exact hsm k g
        · exact hs
      have hsc := scode_t hs
      have hsn := u8c_snoc P (sdg (w.getD i 0))
      have hdn := sdg_nat hsc
      have hlen := (sx_len w i)
      rw [← hP1] at hlen
      rcases Nat.eq_zero_or_pos i with rfl | hi1
      · have h01 : sx w (0 + 1) = sx w 0 := by rw [sx_0]; exact sx_1 w
        rw [← h01] at hP1 hP2
        generalize scode (w.getD 0 0) = n at *
        simp (disch := omega) only [go_sem, hix]
        refine wc.callV 0 (z6 (z8) z7) ?_
        simp (disch := omega) only [go_sem, hix]
        exact ⟨(0 + 1, P, last, ob, H), ⟨hl0, hm, hob, hsm2, hP1, hP2⟩, by simp only; omega, Wk.of (by simp only [go_sem, ↓List.forall_mem_cons, List.not_mem_nil, false_implies, implies_true, and_true, true_and, and_self, ri_eq, Int.natCast_add, Int.cast_ofNat_Int]; try simp) rfl⟩
      · have h1 := sx_fst hi1 hlt
        have h2 := sx_snd hi1 hlt
        rw [← hP1, ← hP2] at h1
        rw [← hP2] at h2
        have e0 : ((i : Int) == 0) = false := by rw [beq_eq_false_iff_ne]; omega
        generalize sdg (w.getD i 0) = dg at *
        generalize scode (w.getD i 0) = n at *
        by_cases c4 : 0 ≤ n
        · rw [if_pos c4] at h2 hdn
          by_cases c1 : 0 < n
          · by_cases c2 : n = last
            · rw [if_neg (fun g => g.2 c2)] at h1
              have e2 : (n != last) = false := by simp [c2]
              simp (disch := omega) only [go_sem, hix, e0, e2]
              refine wc.callV 0 (z6 (z8) z7) ?_
              simp (disch := omega) only [go_sem, hix, e0, e2]
              exact ⟨(i + 1, P, n, ob, H), ⟨hlt, hm, hob, hsm2, h1.symm, h2.symm⟩, by show w.length - (i + 1) < w.length - i; omega, Wk.of (by simp only [go_sem, ↓List.forall_mem_cons, List.not_mem_nil, false_implies, implies_true, and_true, true_and, and_self, ri_eq, Int.natCast_add, Int.cast_ofNat_Int]; try simp) rfl⟩
            · have e2 : (n != last) = true := by simp [c2]
              rw [if_pos ⟨c1, c2⟩] at h1
              have hwr : IntKind.u8.wrap (48 + n) = (dg.toNat : Int) := by rw [hdn]; exact wrap8_id (by omega) (by omega)
              simp (disch := omega) only [go_sem, hix, e0, e2, hwr, hm, hPs, hPt, hsn, ze, zc, zb, za]
              refine wc.callV 0 (z6 (z8) z7) ?_
              simp (disch := omega) only [go_sem, hix, e0, e2, hwr, hm, hPs, hPt, hsn, ze, zc, zb, za]
              have hl2 : (P ++ [dg]).length = P.length + 1 := by simp
              refine ⟨(i + 1, P ++ [dg], n, H.nb + 1, _), ⟨hlt, ?_, ?_, hsm2, h1.symm, h2.symm⟩, by show w.length - (i + 1) < w.length - i; omega, Wk.of (by simp only [go_sem, ↓List.forall_mem_cons, List.not_mem_nil, false_implies, implies_true, and_true, true_and, and_self, ri_eq, Int.natCast_add, Int.cast_ofNat_Int, hl2]; try simp) rfl⟩
              · simp (disch := omega) only [ze, zb, zc, za, if_pos, if_neg, ↓reduceIte]
              · simp only [zc, za]; omega
          · rw [if_neg (fun g => c1 g.1)] at h1
            simp (disch := omega) only [go_sem, hix, e0]
            refine wc.callV 0 (z6 (z8) z7) ?_
            simp (disch := omega) only [go_sem, hix, e0]
            exact ⟨(i + 1, P, n, ob, H), ⟨hlt, hm, hob, hsm2, h1.symm, h2.symm⟩, by show w.length - (i + 1) < w.length - i; omega, Wk.of (by simp only [go_sem, ↓List.forall_mem_cons, List.not_mem_nil, false_implies, implies_true, and_true, true_and, and_self, ri_eq, Int.natCast_add, Int.cast_ofNat_Int]; try simp) rfl⟩
        · rw [if_neg (fun g => by omega)] at h1
          rw [if_neg c4] at h2
          simp (disch := omega) only [go_sem, hix, e0]
          refine wc.callV 0 (z6 (z8) z7) ?_
          simp (disch := omega) only [go_sem, hix, e0]
          exact ⟨(i + 1, P, last, ob, H), ⟨hlt, hm, hob, hsm2, h1.symm, h2.symm⟩, by show w.length - (i + 1) < w.length - i; omega, Wk.of (by simp only [go_sem, ↓List.forall_mem_cons, List.not_mem_nil, false_implies, implies_true, and_true, true_and, and_self, ri_eq, Int.natCast_add, Int.cast_ofNat_Int]; try simp) rfl⟩
  · obtain rfl : i = w.length := by omega
    have hall := sm_all.2 hsm
    have hlen := sx_len w w.length
    rw [sdx_t hall, ← hP1]
    rw [← hP1] at hlen
    have hlp : (P ++ [48, 48, 48]).length = P.length + 3 := by simp
    simp (disch := omega) only [go_sem, hm, hPs, hPt, hlp]
    exact Fin.val rfl
end Go.Sh

/-
  FormatPartition of the program; the law walked.
-/
namespace Go.Sh
open Go Go.Proofs

end Go.Sh

/-
  ParsePartition of the reference.
-/
namespace Go.Sh
open Go Go.Proofs

theorem cutL_part (c : UInt8) : ∀ (s : List UInt8), ∀ q ∈ cutL c s, q.length ≤ s.length
  | [], q, h => by simp [cutL] at h; subst h; simp
  | x :: s, q, h => by
    rw [cutL] at h
    have ih := cutL_part c s
    split at h
    · rcases List.mem_cons.1 h with rfl | h
      · simp
      · have := ih q h; simp; omega
    · obtain ⟨p, ps, e⟩ := cutL_ne c s
      rw [e] at h ih
      rcases List.mem_cons.1 h with rfl | h
      · have := ih p (by simp); simp; omega
      · have := ih q (List.mem_cons_of_mem _ h); simp; omega

end Go.Sh

/-
  Sets of words made and compared: the reference.
-/
namespace Go.Sh
open Go Go.Proofs

def fa (C : List Wd) (k : Nat) : List Wd := ((C.take k).filter fun w => w != []).foldl tput []
theorem takeW {C : List Wd} {k : Nat} (h : k < C.length) : C.take (k + 1) = C.take k ++ [C.getD k []] := take_at [] h
theorem fa_t {C : List Wd} {k : Nat} (h : k < C.length) (hn : C.getD k [] ≠ []) : tput (fa C k) (C.getD k []) = fa C (k + 1) := by
  rw [fa, fa, takeW h, List.filter_append, List.foldl_append, List.filter_cons, if_pos (bne_iff_ne.2 hn)]; rfl
theorem fa_f {C : List Wd} {k : Nat} (h : k < C.length) (hn : C.getD k [] = []) : fa C (k + 1) = fa C k := by
  rw [fa, fa, takeW h, List.filter_append, List.foldl_append, hn]; rfl
theorem fput_le : ∀ (B A : List Wd), Asc A → (B.foldl tput A).length ≤ A.length + B.length
  | [], A, _ => by simp
  | x :: B, A, h => by
    have h1 := fput_le B (tput A x) (tput_asc h)
    have h2 := tput_len (s := x) h
    rw [List.foldl_cons, List.length_cons]
    split at h2 <;> omega
theorem sset_le (L : List Wd) : (sset L).length ≤ L.length := by
  have := fput_le L [] List.Pairwise.nil
  rw [sset]; simpa using this
theorem fa_le (C : List Wd) (k : Nat) : (fa C k).length ≤ k := by
  have h1 := fput_le ((C.take k).filter fun w => w != []) [] List.Pairwise.nil
  rw [List.length_nil, Nat.zero_add] at h1
  exact Nat.le_trans h1 (Nat.le_trans (List.length_filter_le _ _) (by rw [List.length_take]; omega))
theorem fa_0 (C : List Wd) : fa C 0 = [] := rfl
def ca (A B : List Wd) (k : Nat) : List Wd := ((A.take k).filter fun x => B.contains x).foldl tput []
theorem ca_0 (A B : List Wd) : ca A B 0 = [] := rfl
theorem fa_all (C : List Wd) : fa C C.length = sset (C.filter fun w => w != []) := by rw [fa, List.take_length]; rfl
theorem wds_len (t : List UInt8) : (wds t).length ≤ t.length + 1 := by
  have h3 : t.count 32 ≤ t.length := List.count_le_length
  exact Nat.le_trans (List.length_filter_le _ _) (by rw [cutL_len]; omega)
theorem wds_wl {t w : List UInt8} (h : w ∈ wds t) : w.length ≤ t.length := cutL_part 32 t w (List.mem_filter.1 h).1
theorem tks_len (s : List UInt8) : (tks s).length ≤ s.length + 1 := by
  have h1 := sset_le (wds (nrm s))
  have h2 := wds_len (nrm s)
  have h3 := nrm_length s
  rw [tks]; omega
theorem tks_wl {s w : List UInt8} (h : w ∈ tks s) : w.length ≤ s.length := by
  have h1 := wds_wl (sset_mem.1 h)
  have h3 := nrm_length s
  omega
theorem tks_sl {s : List UInt8} (h : s.length ≤ 1000) : SL (tks s) := ⟨by have := tks_len s; omega, fun w hw => by have := tks_wl hw; omega⟩
theorem sks_len (s : List UInt8) : (sks s).length ≤ s.length + 1 := by
  have h3 := tks_len s
  exact Nat.le_trans (sset_le (skl (tks s))) (Nat.le_trans (List.length_filter_le _ _) (by rw [List.length_map]; exact h3))
theorem sks_sl {s : List UInt8} (h : s.length ≤ 1000) : SL (sks s) := ⟨by have := sks_len s; omega, fun w hw => by
  obtain ⟨x, _, rfl⟩ := List.mem_map.1 (List.mem_filter.1 (sset_mem.1 hw)).1
  have := sdx_le x; omega⟩
set_option maxHeartbeats 8000000 in
theorem Tryz.specTok_ok (s : List UInt8) (hs : s.length ≤ 1000) : PCall Tryz.prog 68 [str s] (rst (tks s)) := by
  refine FCall.pcall (R := FlatRes (tks s).length 1 (strs (tks s))) ?_ 1 (fun _ _ h => flat_viewS h)
  have hn := nrm_length s
  have wn := Tryz.specNrm_ok s (by omega)
  have wc := Tryz.l2Cut_ok (nrm s) 32 (by omega)
  have hcl := cutL_len 32 (nrm s)
  have hcc : (nrm s).count 32 ≤ (nrm s).length := List.count_le_length
  have hall := fa_all (cutL 32 (nrm s))
  have hw : sset ((cutL 32 (nrm s)).filter fun w => w != []) = tks s := rfl
  rw [hw] at hall
  rw [← hall]
  clear hall hw
  generalize cutL 32 (nrm s) = C at *
  have lC := zj C
  refine FCall.of_body Tryz.func68 rfl (by kernel_rfl) (by simp [Tryz.ntmps68]) ?_
  refine SW_of_vc Tryz.mixed _ _ _ (by kernel_rfl) ?_
  simp (disch := omega) only [go_sem, rst]
  refine wn.callV 0 (z6 zd z7) ?_
  simp (disch := omega) only [go_sem, rst]
  refine wc.callV 0 (z6 zd (z6 z8 z7)) ?_
  simp (disch := omega) only [go_sem, rst]
  refine LoopW.loop (fun y : Nat × Nat × Nat × Bool × Bool × Heap => ⟨ofL [(3, .own y.2.1 0 (fa C y.1).length y.2.2.1 1 y.2.2.2.1), (4, rst C), (5, .val (.int .i64 y.1))], y.2.2.2.2.2⟩)
    (fun y => y.1 ≤ C.length ∧ y.2.2.2.2.2.map y.2.1 = some ⟨strs (fa C y.1), y.2.2.2.2.1⟩ ∧ y.2.1 < y.2.2.2.2.2.nb ∧ (fa C y.1).length ≤ y.2.2.1) (fun y => C.length - y.1) (0, 0, 0, false, false, hp [(0, ⟨[], false⟩)] 1) ⟨by simp, rfl, by simp [hp], Nat.le_refl _⟩ (Wk.of (by simp only [go_sem, ↓List.forall_mem_cons, List.not_mem_nil, false_implies, implies_true, and_true, true_and, and_self, ri_eq, Int.natCast_add, Int.cast_ofNat_Int, rst, fa_0, ca_0, List.length_nil]; try simp) rfl) ?_
  rintro ⟨i, b, cap, ex, e, H⟩ ⟨hi, hm, hb, hcp⟩
  simp only at hi hm hb hcp
  refine SW_of_vc Tryz.mixed _ _ _ (by kernel_rfl) ?_
  by_cases hlt : i < C.length
  · have hg := zn hlt
    have hfl := fa_le C i
    by_cases hne : C.getD i [] = []
    · have e1 : (C.getD i [] == []) = true := by rw [hne]; rfl
      have hst := fa_f hlt hne
      simp (disch := omega) only [go_sem, rst, hg, lC, e1]
      exact ⟨(i + 1, b, cap, ex, e, H), ⟨hlt, by simp only [hst]; exact hm, hb, by simp only [hst]; exact hcp⟩, by simp only; omega, Wk.of (by simp only [go_sem, ↓List.forall_mem_cons, List.not_mem_nil, false_implies, implies_true, and_true, true_and, and_self, ri_eq, Int.natCast_add, Int.cast_ofNat_Int, rst, hst]; try simp) rfl⟩
    · have e1 : (C.getD i [] == []) = false := beq_eq_false_iff_ne.2 hne
      have wp := Tryz.l3Put_ok H b cap ex e (fa C i) (C.getD i []) (by omega) hm hb hcp
      rw [fa_t hlt hne] at wp
      simp (disch := omega) only [go_sem, rst, hg, lC, e1]
      refine wp.callX ?_
      rintro r H' ⟨b', cap', ex', e', rfl, q0, q1, q2, q3, q4⟩
      simp (disch := omega) only [go_sem, rst, hg, lC, e1]
      exact ⟨(i + 1, b', cap', ex', e', H'), ⟨hlt, q1, q2, q0⟩, by simp only; omega, Wk.of (by simp only [go_sem, ↓List.forall_mem_cons, List.not_mem_nil, false_implies, implies_true, and_true, true_and, and_self, ri_eq, Int.natCast_add, Int.cast_ofNat_Int, rst]; try simp) rfl⟩
  · obtain rfl : i = C.length := by omega
    simp (disch := omega) only [go_sem, rst]
    exact fin_strs rfl hm
set_option maxHeartbeats 8000000 in
theorem Tryz.specSK_ok (s : List UInt8) (hs : s.length ≤ 1000) : PCall Tryz.prog 69 [str s] (rst (sks s)) := by
  refine FCall.pcall (R := FlatRes (sks s).length 1 (strs (sks s))) ?_ 1 (fun _ _ h => flat_viewS h)
  have wt := Tryz.specTok_ok s hs
  have hts := tks_ts s
  have hsl := tks_sl hs
  have hall := fa_all ((tks s).map sdx)
  have hw : sset (((tks s).map sdx).filter fun w => w != []) = sks s := rfl
  rw [hw, List.length_map] at hall
  rw [← hall]
  clear hall hw
  generalize tks s = C at *
  have hCl := hsl.1
  have lC := zj C
  refine FCall.of_body Tryz.func69 rfl (by kernel_rfl) (by simp [Tryz.ntmps69]) ?_
  refine SW_of_vc Tryz.mixed _ _ _ (by kernel_rfl) ?_
  simp (disch := omega) only [go_sem, rst]
  refine wt.callV 0 (z6 zd z7) ?_
  simp (disch := omega) only [go_sem, rst]
  refine LoopW.loop (fun y : Nat × Nat × Nat × Bool × Bool × Heap => ⟨ofL [(3, .own y.2.1 0 (fa (C.map sdx) y.1).length y.2.2.1 1 y.2.2.2.1), (4, rst C), (5, .val (.int .i64 y.1))], y.2.2.2.2.2⟩)
    (fun y => y.1 ≤ C.length ∧ y.2.2.2.2.2.map y.2.1 = some ⟨strs (fa (C.map sdx) y.1), y.2.2.2.2.1⟩ ∧ y.2.1 < y.2.2.2.2.2.nb ∧ (fa (C.map sdx) y.1).length ≤ y.2.2.1) (fun y => C.length - y.1) (0, 0, 0, false, false, hp [(0, ⟨[], false⟩)] 1) ⟨by simp, rfl, by simp [hp], Nat.le_refl _⟩ (Wk.of (by simp only [go_sem, ↓List.forall_mem_cons, List.not_mem_nil, false_implies, implies_true, and_true, true_and, and_self, ri_eq, Int.natCast_add, Int.cast_ofNat_Int, rst, fa_0, ca_0, List.length_nil]; try simp) rfl) ?_
  rintro ⟨i, b, cap, ex, e, H⟩ ⟨hi, hm, hb, hcp⟩
  simp only at hi hm hb hcp
  refine SW_of_vc Tryz.mixed _ _ _ (by kernel_rfl) ?_
  by_cases hlt : i < C.length
  · have hg := zn hlt
    have hfl := fa_le (C.map sdx) i
    have hlt2 : i < (C.map sdx).length := by rw [List.length_map]; exact hlt
    have hgm : (C.map sdx).getD i [] = sdx (C.getD i []) := by simp [List.getD, hlt]
    have wx := Tryz.specSdx_ok (C.getD i []) (sl_w hsl hlt) (ts_w hts hlt)
    have hf1 := fa_f hlt2
    have hf2 := fa_t hlt2
    rw [hgm] at hf1 hf2
    generalize sdx (C.getD i []) = k at *
    by_cases hne : k = []
    · have e1 : (k == []) = true := by rw [hne]; rfl
      have hst := hf1 hne
      simp (disch := omega) only [go_sem, rst, hg, lC, e1]
      refine wx.callV 0 (z6 zd z7) ?_
      simp (disch := omega) only [go_sem, rst, hg, lC, e1]
      exact ⟨(i + 1, b, cap, ex, e, H), ⟨hlt, by simp only [hst]; exact hm, hb, by simp only [hst]; exact hcp⟩, by simp only; omega, Wk.of (by simp only [go_sem, ↓List.forall_mem_cons, List.not_mem_nil, false_implies, implies_true, and_true, true_and, and_self, ri_eq, Int.natCast_add, Int.cast_ofNat_Int, rst, hst]; try simp) rfl⟩
    · have e1 : (k == []) = false := beq_eq_false_iff_ne.2 hne
      have wp := Tryz.l3Put_ok H b cap ex e (fa (C.map sdx) i) k (by omega) hm hb hcp
      rw [hf2 hne] at wp
      simp (disch := omega) only [go_sem, rst, hg, lC, e1]
      refine wx.callV 0 (z6 zd z7) ?_
      simp (disch := omega) only [go_sem, rst, hg, lC, e1]
      refine wp.callX ?_
      rintro r H' ⟨b', cap', ex', e', rfl, q0, q1, q2, q3, q4⟩
      simp (disch := omega) only [go_sem, rst, hg, lC, e1]
      exact ⟨(i + 1, b', cap', ex', e', H'), ⟨hlt, q1, q2, q0⟩, by simp only; omega, Wk.of (by simp only [go_sem, ↓List.forall_mem_cons, List.not_mem_nil, false_implies, implies_true, and_true, true_and, and_self, ri_eq, Int.natCast_add, Int.cast_ofNat_Int, rst]; try simp) rfl⟩
  · obtain rfl : i = C.length := by omega
    simp (disch := omega) only [go_sem, rst]
    exact fin_strs rfl hm
set_option maxHeartbeats 4000000 in
theorem Tryz.l3Has_ok (B : List Wd) (x : Wd) (hB : B.length ≤ 1048576) : PCall Tryz.prog 205 [rst B, str x] (.val (.bool (B.contains x))) := by
  refine FCall.pcall (R := fun r _ => r = .val (.bool (B.contains x))) ?_ 0 (by rintro r H rfl; exact zg)
  refine FCall.of_body Tryz.func205 rfl (by kernel_rfl) (by simp [Tryz.ntmps205]) ?_
  refine SW_of_vc Tryz.mixed _ _ _ (by kernel_rfl) ?_
  have lC := zj B
  simp (disch := omega) only [go_sem, rst]
  refine LoopW.loop (fun i : Nat => ⟨ofL [(0, rst B), (1, str x), (5, .val (.int .i64 i))], hp [] 0⟩) (fun i => i ≤ B.length ∧ ∀ k, k < i → B.getD k [] ≠ x) (fun i => B.length - i) 0 ⟨by omega, by simp⟩ (Wk.of (by simp only [go_sem, ↓List.forall_mem_cons, List.not_mem_nil, false_implies, implies_true, and_true, true_and, and_self, ri_eq, Int.natCast_add, Int.cast_ofNat_Int, rst]; try simp) rfl) ?_
  rintro i ⟨hi, hno⟩
  refine SW_of_vc Tryz.mixed _ _ _ (by kernel_rfl) ?_
  by_cases hlt : i < B.length
  · have hg := zn hlt
    by_cases he : B.getD i [] = x
    · have e1 : (B.getD i [] == x) = true := by rw [he]; exact beq_self_eq_true x
      have hc : B.contains x = true := List.contains_iff_mem.2 (by rw [← he]; simp [List.getD, hlt])
      rw [hc]
      simp (disch := omega) only [go_sem, rst, hg, lC, e1]
      exact Fin.val rfl
    · have e1 : (B.getD i [] == x) = false := beq_eq_false_iff_ne.2 he
      simp (disch := omega) only [go_sem, rst, hg, lC, e1]
      refine ⟨i + 1, ⟨hlt, fun k hk => ?_⟩, by omega, Wk.of (by simp only [go_sem, ↓List.forall_mem_cons, List.not_mem_nil, false_implies, implies_true, and_true, true_and, and_self, ri_eq, Int.natCast_add, Int.cast_ofNat_Int, rst]; try simp) rfl⟩
      rcases Nat.lt_succ_iff_lt_or_eq.1 hk with g | rfl
      · exact hno k g
      · exact he
  · have hc : B.contains x = false := by
      rw [Bool.eq_false_iff]
      intro h
      obtain ⟨k, hk, rfl⟩ := List.getElem_of_mem (List.contains_iff_mem.1 h)
      exact hno k (by omega) (by simp [List.getD, hk])
    rw [hc]
    simp (disch := omega) only [go_sem, rst]
    exact Fin.val rfl
theorem ca_t {A B : List Wd} {k : Nat} (h : k < A.length) (hn : B.contains (A.getD k []) = true) : tput (ca A B k) (A.getD k []) = ca A B (k + 1) := by
  rw [ca, ca, takeW h, List.filter_append, List.foldl_append, List.filter_cons, if_pos hn]; rfl
theorem ca_f {A B : List Wd} {k : Nat} (h : k < A.length) (hn : B.contains (A.getD k []) = false) : ca A B (k + 1) = ca A B k := by
  rw [ca, ca, takeW h, List.filter_append, List.foldl_append, List.filter_cons, if_neg (by rw [hn]; simp)]; rfl
theorem ca_le (A B : List Wd) (k : Nat) : (ca A B k).length ≤ k := by
  have h1 := fput_le ((A.take k).filter fun x => B.contains x) [] List.Pairwise.nil
  rw [List.length_nil, Nat.zero_add] at h1
  exact Nat.le_trans h1 (Nat.le_trans (List.length_filter_le _ _) (by rw [List.length_take]; omega))
theorem ca_all (A B : List Wd) : ca A B A.length = sset (A.filter fun x => B.contains x) := by rw [ca, List.take_length]; rfl
set_option maxHeartbeats 8000000 in
theorem Tryz.common_ok (A B : List Wd) (hA : A.length ≤ 1048576) (hB : B.length ≤ 1048576) : PCall Tryz.prog 162 [rst A, rst B] (rst (sset (A.filter fun x => B.contains x))) := by
  refine FCall.pcall (R := FlatRes (sset (A.filter fun x => B.contains x)).length 1 (strs (sset (A.filter fun x => B.contains x)))) ?_ 1 (fun _ _ h => flat_viewS h)
  rw [← ca_all]
  have lA := zj A
  refine FCall.of_body Tryz.func162 rfl (by kernel_rfl) (by simp [Tryz.ntmps162]) ?_
  refine SW_of_vc Tryz.mixed _ _ _ (by kernel_rfl) ?_
  simp (disch := omega) only [go_sem, rst]
  refine LoopW.loop (fun y : Nat × Nat × Nat × Bool × Bool × Heap => ⟨ofL [(0, rst A), (1, rst B), (5, .own y.2.1 0 (ca A B y.1).length y.2.2.1 1 y.2.2.2.1), (6, .val (.int .i64 y.1))], y.2.2.2.2.2⟩)
    (fun y => y.1 ≤ A.length ∧ y.2.2.2.2.2.map y.2.1 = some ⟨strs (ca A B y.1), y.2.2.2.2.1⟩ ∧ y.2.1 < y.2.2.2.2.2.nb ∧ (ca A B y.1).length ≤ y.2.2.1) (fun y => A.length - y.1) (0, 0, 0, false, false, hp [(0, ⟨[], false⟩)] 1) ⟨by simp, rfl, by simp [hp], Nat.le_refl _⟩ (Wk.of (by simp only [go_sem, ↓List.forall_mem_cons, List.not_mem_nil, false_implies, implies_true, and_true, true_and, and_self, ri_eq, Int.natCast_add, Int.cast_ofNat_Int, rst, fa_0, ca_0, List.length_nil]; try simp) rfl) ?_
  rintro ⟨i, b, cap, ex, e, H⟩ ⟨hi, hm, hb, hcp⟩
  simp only at hi hm hb hcp
  refine SW_of_vc Tryz.mixed _ _ _ (by kernel_rfl) ?_
  by_cases hlt : i < A.length
  · have hg := zn hlt
    have hfl := ca_le A B i
    have wh := Tryz.l3Has_ok B (A.getD i []) hB
    cases hc : B.contains (A.getD i []) with
    | false =>
      rw [hc] at wh
      have hst := ca_f hlt hc
      simp (disch := omega) only [go_sem, rst, hg, lA]
      refine wh.callV 0 (z6 zf (z6 zd z7)) ?_
      simp (disch := omega) only [go_sem, rst, hg, lA]
      exact ⟨(i + 1, b, cap, ex, e, H), ⟨hlt, by simp only [hst]; exact hm, hb, by simp only [hst]; exact hcp⟩, by simp only; omega, Wk.of (by simp only [go_sem, ↓List.forall_mem_cons, List.not_mem_nil, false_implies, implies_true, and_true, true_and, and_self, ri_eq, Int.natCast_add, Int.cast_ofNat_Int, rst, hst]; try simp) rfl⟩
    | true =>
      rw [hc] at wh
      have wp := Tryz.l3Put_ok H b cap ex e (ca A B i) (A.getD i []) (by omega) hm hb hcp
      rw [ca_t hlt hc] at wp
      simp (disch := omega) only [go_sem, rst, hg, lA]
      refine wh.callV 0 (z6 zf (z6 zd z7)) ?_
      simp (disch := omega) only [go_sem, rst, hg, lA]
      refine wp.callX ?_
      rintro r H' ⟨b', cap', ex', e', rfl, q0, q1, q2, q3, q4⟩
      simp (disch := omega) only [go_sem, rst, hg, lA]
      exact ⟨(i + 1, b', cap', ex', e', H'), ⟨hlt, q1, q2, q0⟩, by simp only; omega, Wk.of (by simp only [go_sem, ↓List.forall_mem_cons, List.not_mem_nil, false_implies, implies_true, and_true, true_and, and_self, ri_eq, Int.natCast_add, Int.cast_ofNat_Int, rst]; try simp) rfl⟩
  · obtain rfl : i = A.length := by omega
    simp (disch := omega) only [go_sem, rst]
    exact fin_strs rfl hm
theorem put_succ {A : List Wd} {k : Nat} (h : k < A.length) (S : List Wd) : tput ((A.take k).foldl tput S) (A.getD k []) = (A.take (k + 1)).foldl tput S := by rw [takeW h, List.foldl_append]; rfl
theorem put_le {A : List Wd} {k : Nat} {S : List Wd} (hS : Asc S) : ((A.take k).foldl tput S).length ≤ S.length + A.length :=
  Nat.le_trans (fput_le (A.take k) S hS) (Nat.add_le_add_left (by rw [List.length_take]; omega) _)
set_option maxHeartbeats 8000000 in
theorem Tryz.unite_ok (A B : List Wd) (hA : A.length ≤ 500000) (hB : B.length ≤ 500000) : PCall Tryz.prog 163 [rst A, rst B] (rst (B.foldl tput (A.foldl tput []))) := by
  refine FCall.pcall (R := FlatRes (B.foldl tput (A.foldl tput [])).length 1 (strs (B.foldl tput (A.foldl tput [])))) ?_ 1 (fun _ _ h => flat_viewS h)
  have lA := zj A
  have lB := zj B
  have hn0 : Asc [] := List.Pairwise.nil
  have hS : Asc (A.foldl tput []) := foldput_asc hn0
  have hSl := fput_le A [] hn0
  simp only [List.length_nil, Nat.zero_add] at hSl
  refine FCall.of_body Tryz.func163 rfl (by kernel_rfl) (by simp [Tryz.ntmps163]) ?_
  refine SW_of_vc Tryz.mixed _ _ _ (by kernel_rfl) ?_
  simp (disch := omega) only [go_sem, rst]
  refine LoopW.loop (fun y : Nat × Nat × Nat × Bool × Bool × Heap => ⟨ofL [(0, rst A), (1, rst B), (5, .own y.2.1 0 ((A.take y.1).foldl tput []).length y.2.2.1 1 y.2.2.2.1), (6, .val (.int .i64 y.1))], y.2.2.2.2.2⟩)
    (fun y => y.1 ≤ A.length ∧ y.2.2.2.2.2.map y.2.1 = some ⟨strs ((A.take y.1).foldl tput []), y.2.2.2.2.1⟩ ∧ y.2.1 < y.2.2.2.2.2.nb ∧ ((A.take y.1).foldl tput []).length ≤ y.2.2.1) (fun y => A.length - y.1) (0, 0, 0, false, false, hp [(0, ⟨[], false⟩)] 1) ⟨by simp, rfl, by simp [hp], Nat.le_refl _⟩ (Wk.of (by simp only [go_sem, ↓List.forall_mem_cons, List.not_mem_nil, false_implies, implies_true, and_true, true_and, and_self, ri_eq, Int.natCast_add, Int.cast_ofNat_Int, rst, List.take_zero, List.foldl_nil]; try simp) rfl) ?_
  rintro ⟨i, b, cap, ex, e, H⟩ ⟨hi, hm, hb, hcp⟩
  simp only at hi hm hb hcp
  refine SW_of_vc Tryz.mixed _ _ _ (by kernel_rfl) ?_
  by_cases hlt : i < A.length
  · have hg := zn hlt
    have hfl := put_le (A := A) (k := i) hn0
    simp only [List.length_nil, Nat.zero_add] at hfl
    have wp := Tryz.l3Put_ok H b cap ex e ((A.take i).foldl tput []) (A.getD i []) (by omega) hm hb hcp
    rw [put_succ hlt] at wp
    simp (disch := omega) only [go_sem, rst, hg, lA]
    refine wp.callX ?_
    rintro r H' ⟨b', cap', ex', e', rfl, q0, q1, q2, q3, q4⟩
    simp (disch := omega) only [go_sem, rst, hg, lA]
    exact ⟨(i + 1, b', cap', ex', e', H'), ⟨hlt, q1, q2, q0⟩, by simp only; omega, Wk.of (by simp only [go_sem, ↓List.forall_mem_cons, List.not_mem_nil, false_implies, implies_true, and_true, true_and, and_self, ri_eq, Int.natCast_add, Int.cast_ofNat_Int, rst]; try simp) rfl⟩
  · obtain rfl : i = A.length := by omega
    rw [List.take_length] at hm hcp
    generalize hSe : A.foldl tput [] = S at *
    simp (disch := omega) only [go_sem, rst, List.take_length, hSe]
    refine LoopW.loop (fun y : Nat × Nat × Nat × Bool × Bool × Heap => ⟨ofL [(1, rst B), (5, .own y.2.1 0 ((B.take y.1).foldl tput S).length y.2.2.1 1 y.2.2.2.1), (7, .val (.int .i64 y.1))], y.2.2.2.2.2⟩)
      (fun y => y.1 ≤ B.length ∧ y.2.2.2.2.2.map y.2.1 = some ⟨strs ((B.take y.1).foldl tput S), y.2.2.2.2.1⟩ ∧ y.2.1 < y.2.2.2.2.2.nb ∧ ((B.take y.1).foldl tput S).length ≤ y.2.2.1) (fun y => B.length - y.1) (0, b, cap, ex, e, H) ⟨by simp, hm, hb, hcp⟩ (Wk.of (by simp only [go_sem, ↓List.forall_mem_cons, List.not_mem_nil, false_implies, implies_true, and_true, true_and, and_self, ri_eq, Int.natCast_add, Int.cast_ofNat_Int, rst, List.take_zero, List.foldl_nil, List.take_length, hSe]; try simp) rfl) ?_
    clear hm hb hcp b cap ex e H
    rintro ⟨i, b, cap, ex, e, H⟩ ⟨hi, hm, hb, hcp⟩
    simp only at hi hm hb hcp
    refine SW_of_vc Tryz.mixed _ _ _ (by kernel_rfl) ?_
    by_cases hlt : i < B.length
    · have hg := zn hlt
      have hfl := put_le (A := B) (k := i) hS
      have wp := Tryz.l3Put_ok H b cap ex e ((B.take i).foldl tput S) (B.getD i []) (by omega) hm hb hcp
      rw [put_succ hlt] at wp
      simp (disch := omega) only [go_sem, rst, hg, lB]
      refine wp.callX ?_
      rintro r H' ⟨b', cap', ex', e', rfl, q0, q1, q2, q3, q4⟩
      simp (disch := omega) only [go_sem, rst, hg, lB]
      exact ⟨(i + 1, b', cap', ex', e', H'), ⟨hlt, q1, q2, q0⟩, by simp only; omega, Wk.of (by simp only [go_sem, ↓List.forall_mem_cons, List.not_mem_nil, false_implies, implies_true, and_true, true_and, and_self, ri_eq, Int.natCast_add, Int.cast_ofNat_Int, rst]; try simp) rfl⟩
    · obtain rfl : i = B.length := by omega
      rw [List.take_length] at hm
      simp (disch := omega) only [go_sem, rst, List.take_length]
      exact fin_strs rfl hm
set_option maxHeartbeats 2000000 in
theorem Tryz.ratio_ok (n d : Int) (hn : 0 ≤ n ∧ n ≤ 1048576) (hd : n ≤ d ∧ d ≤ 4000000) : PCall Tryz.prog 161 [.val (.int .i64 n), .val (.int .i64 d)] (.val (.int .i64 (if d = 0 then 1000 else (1000 * n).tdiv d))) := by
  refine FCall.pcall (R := fun r _ => r = .val (.int .i64 (if d = 0 then 1000 else (1000 * n).tdiv d))) ?_ 0 (by rintro r H rfl; exact z8)
  refine FCall.of_body Tryz.func161 rfl (by kernel_rfl) (by simp [Tryz.ntmps161]) ?_
  refine SW_of_vc Tryz.mixed _ _ _ (by kernel_rfl) ?_
  by_cases h : d = 0
  · have e1 : (d == 0) = true := by rw [h]; rfl
    rw [if_pos h]
    simp (disch := omega) only [go_sem, e1]
    exact Fin.val rfl
  · have e1 : (d == 0) = false := beq_eq_false_iff_ne.2 h
    have hq := td_b (x := n) (m := d) hn.1 hd.1 (by omega)
    rw [if_neg h]
    simp (disch := omega) only [go_sem, e1]
    exact Fin.val (by first | (rw [wrap_id (by omega) (by omega)]; done) | rfl)
set_option maxHeartbeats 4000000 in
theorem Tryz.specJac_ok (A B : List Wd) (hA : SL A) (hB : SL B) (tA : TS A) (tB : TS B) (lA : A.length ≤ 2000) (lB : B.length ≤ 2000) : PCall Tryz.prog 116 [rst A, rst B] (.val (.int .i64 (jac A B))) := by
  refine FCall.pcall (R := fun r _ => r = .val (.int .i64 (jac A B))) ?_ 0 (by rintro r H rfl; exact z8)
  have w0 := Tryz.l5Sets_ok A B hA hB tA tB
  have w1 := Tryz.common_ok A B hA.1 hB.1
  have w2 := Tryz.unite_ok A B (by omega) (by omega)
  have c1 := common_len (B := B) tA.1
  have c2 := unite_len tA.1 tB.1
  have c3 := com_le A B
  have c4 := com_symm tA.1 tB.1
  have c5 := com_le B A
  rw [jac]
  generalize sset (A.filter fun x => B.contains x) = X at *
  generalize B.foldl tput (A.foldl tput []) = Y at *
  generalize com A B = c at *
  have hY : (A.length : Int) + B.length - c = (Y.length : Int) := by omega
  have wr := Tryz.ratio_ok (X.length : Int) (Y.length : Int) (by omega) (by omega)
  rw [c1] at wr
  rw [hY]
  refine FCall.of_body Tryz.func116 rfl (by kernel_rfl) (by simp [Tryz.ntmps116]) ?_
  refine SW_of_vc Tryz.mixed _ _ _ (by kernel_rfl) ?_
  simp (disch := omega) only [go_sem, rst, c1]
  refine w0.callV 0 (z6 zf (z6 zf z7)) ?_
  simp (disch := omega) only [go_sem, rst, c1]
  refine w1.callV 0 (z6 zf (z6 zf z7)) ?_
  simp (disch := omega) only [go_sem, rst, c1]
  refine w2.callV 0 (z6 zf (z6 zf z7)) ?_
  simp (disch := omega) only [go_sem, rst, c1]
  refine wr.callV 0 (z6 (z8) (z6 (z8) z7)) ?_
  simp (disch := omega) only [go_sem, rst, c1]
  exact Fin.val rfl
set_option maxHeartbeats 4000000 in
theorem Tryz.specSts_ok (A B : List Wd) (hA : SL A) (hB : SL B) (tA : TS A) (tB : TS B) (lA : A.length ≤ 2000) (lB : B.length ≤ 2000) : PCall Tryz.prog 67 [rst A, rst B] (.val (.int .i64 (sts A B))) := by
  refine FCall.pcall (R := fun r _ => r = .val (.int .i64 (sts A B))) ?_ 0 (by rintro r H rfl; exact z8)
  have w := Tryz.specJac_ok A B hA hB tA tB lA lB
  rw [sts]
  refine FCall.of_body Tryz.func67 rfl (by kernel_rfl) (by simp [Tryz.ntmps67]) ?_
  refine SW_of_vc Tryz.mixed _ _ _ (by kernel_rfl) ?_
  by_cases h1 : A = []
  · have e1 : ((A.length : Int) == 0) = true := by rw [h1]; rfl
    rw [if_pos (.inl h1)]
    simp (disch := omega) only [go_sem, rst, e1]
    exact Fin.val rfl
  · have e1 : ((A.length : Int) == 0) = false := by
      have := List.length_pos_iff.2 h1
      rw [beq_eq_false_iff_ne]; omega
    by_cases h2 : B = []
    · have e2 : ((B.length : Int) == 0) = true := by rw [h2]; rfl
      rw [if_pos (.inr h2)]
      simp (disch := omega) only [go_sem, rst, e1, e2]
      exact Fin.val rfl
    · have e2 : ((B.length : Int) == 0) = false := by
        have := List.length_pos_iff.2 h2
        rw [beq_eq_false_iff_ne]; omega
      rw [if_neg (by simp [h1, h2])]
      simp (disch := omega) only [go_sem, rst, e1, e2]
      refine w.callV 0 (z6 zf (z6 zf z7)) ?_
      simp (disch := omega) only [go_sem, rst]
      exact Fin.val rfl
end Go.Sh

/-
  Sets of words made and compared: the program.
-/
namespace Go.Sh
open Go Go.Proofs

set_option maxHeartbeats 4000000 in
theorem Tryz.implTok_ok (s : List UInt8) (hs : s.length ≤ 1000) : PCall Tryz.prog 96 [str s] (rst (tks s)) := by
  have hn := nrm_length s
  have wn := Tryz.implNrm_ok s (by omega)
  have ww := Tryz.implWords_ok (nrm s) (by omega) nrm_asc
  have hwl := wds_len (nrm s)
  have he : tks s = sset (wds (nrm s)) := rfl
  rw [he]
  generalize wds (nrm s) = L at *
  refine PCall.of_bodyN Tryz.func96 rfl (by kernel_rfl) (by simp [Tryz.ntmps96]) ?_
  refine SW_of_vc Tryz.mixed _ _ _ (by kernel_rfl) ?_
  by_cases h0 : L = []
  · subst h0
    have w1 := Tryz.sortedSet_nil
    have hs0 : sset [] = [] := rfl
    rw [hs0]
    rw [rst_nil] at *
    simp (disch := omega) only [go_sem]
    refine wn.callV 0 (z6 zd z7) ?_
    simp (disch := omega) only [go_sem]
    refine ww.callV 0 (z6 zd z7) ?_
    simp (disch := omega) only [go_sem]
    refine w1.callV 0 (z6 zf z7) ?_
    simp (disch := omega) only [go_sem]
    exact .inr ⟨false, rfl⟩
  · have w1 := (Tryz.sortedSet_f L (by omega) h0).one
    simp (disch := omega) only [go_sem, rst]
    refine wn.callV 0 (z6 zd z7) ?_
    simp (disch := omega) only [go_sem, rst]
    refine ww.callV 0 (z6 zd z7) ?_
    simp (disch := omega) only [go_sem, rst]
    refine w1.callOne (strs_vals _) 0 (z6 zf z7) ?_
    simp (disch := omega) only [go_sem, rst]
    refine .inl ?_
    obtain ⟨H2, g1, g2, g3, g4⟩ := fin_strs (L := sset L) (n := (sset L).length) (b := 0) (cap := (sset L).length) (ex := false) (e2 := false) (H := (hp [] 0).push ⟨strs (sset L), false⟩) rfl rfl
    exact ⟨H2, g1, g2, g3, 1, flat_viewS g4⟩
def sk (C : List Wd) (k : Nat) : List Wd := (((C.take k).map sdx).filter fun w => w != [])
theorem sk_0 (C : List Wd) : sk C 0 = [] := rfl
theorem sk_all (C : List Wd) : sk C C.length = skl C := by rw [sk, List.take_length]; rfl
theorem sk_t {C : List Wd} {k : Nat} (h : k < C.length) (hn : sdx (C.getD k []) ≠ []) : sk C (k + 1) = sk C k ++ [sdx (C.getD k [])] := by
  rw [sk, sk, takeW h, List.map_append, List.filter_append, List.map_cons, List.filter_cons, if_pos (bne_iff_ne.2 hn)]; rfl
theorem sk_f {C : List Wd} {k : Nat} (h : k < C.length) (hn : sdx (C.getD k []) = []) : sk C (k + 1) = sk C k := by
  rw [sk, sk, takeW h, List.map_append, List.filter_append, List.map_cons, hn]
  simp
theorem sk_le (C : List Wd) (k : Nat) : (sk C k).length ≤ k := Nat.le_trans (List.length_filter_le _ _) (by rw [List.length_map, List.length_take]; omega)
set_option maxRecDepth 20000 in
set_option maxHeartbeats 8000000 in
theorem Tryz.implSK_ok (s : List UInt8) (hs : s.length ≤ 1000) : PCall Tryz.prog 97 [str s] (rst (sks s)) := by
  have wt := Tryz.implTok_ok s hs
  have hts := tks_ts s
  have hsl := tks_sl hs
  have he : sks s = sset (skl (tks s)) := rfl
  rw [he, ← sk_all]
  generalize tks s = C at *
  have hCl := hsl.1
  have lC := zj C
  refine PCall.of_bodyN Tryz.func97 rfl (by kernel_rfl) (by simp [Tryz.ntmps97]) ?_
  refine SW_of_vc Tryz.mixed _ _ _ (by kernel_rfl) ?_
  simp (disch := omega) only [go_sem, rst]
  refine wt.callV 0 (z6 zd z7) ?_
  simp (disch := omega) only [go_sem, rst]
  refine LoopW.loop (fun y : Nat × Nat × Heap => ⟨ofL [(3, nlG 1 y.2.1 (sk C y.1).length), (8, rst C), (9, .val (.int .i64 C.length)), (10, .val (.int .i64 y.1))], y.2.2⟩)
    (fun y => y.1 ≤ C.length ∧ ((sk C y.1).length ≠ 0 → y.2.1 < y.2.2.nb ∧ y.2.2.map y.2.1 = some ⟨strs (sk C y.1), false⟩)) (fun y => C.length - y.1) (0, 0, hp [] 0) ⟨by simp, fun h => absurd rfl h⟩
    (Wk.of (by simp only [go_sem, ↓List.forall_mem_cons, List.not_mem_nil, false_implies, implies_true, and_true, true_and, and_self, ri_eq, Int.natCast_add, Int.cast_ofNat_Int, rst, sk_0, List.length_nil, nlG_0]; try simp) rfl) ?_
  rintro ⟨i, ob, H⟩ ⟨hi, hml⟩
  simp only at hi hml
  have hle := sk_le C i
  have hPs := zj (sk C i)
  have hPt : (strs (sk C i)).take (sk C i).length = strs (sk C i) := List.take_of_length_le (by omega)
  refine SW_of_vc Tryz.mixed _ _ _ (by kernel_rfl) ?_
  by_cases hlt : i < C.length
  · have hg := zn hlt
    have wx := Tryz.implSdx_ok (C.getD i []) (sl_w hsl hlt) (ts_w hts hlt)
    have hf1 := sk_f hlt
    have hf2 := sk_t hlt
    generalize sdx (C.getD i []) = k at *
    by_cases hne : k = []
    · have e1 : (k == []) = true := by rw [hne]; rfl
      have hst := hf1 hne
      simp (disch := omega) only [go_sem, rst, hg, lC, e1]
      refine wx.callV 0 (z6 zd z7) ?_
      simp (disch := omega) only [go_sem, rst, hg, lC, e1]
      exact ⟨(i + 1, ob, H), ⟨hlt, by simp only [hst]; exact hml⟩, by simp only; omega, Wk.of (by simp only [go_sem, ↓List.forall_mem_cons, List.not_mem_nil, false_implies, implies_true, and_true, true_and, and_self, ri_eq, Int.natCast_add, Int.cast_ofNat_Int, rst, hst]; try simp) rfl⟩
    · have e1 : (k == []) = false := beq_eq_false_iff_ne.2 hne
      have hst := hf2 hne
      have hl2 : (sk C (i + 1)).length = (sk C i).length + 1 := by rw [hst]; simp
      have hsn : strs (sk C i) ++ [str k] = strs (sk C (i + 1)) := by rw [hst]; exact strs_snoc _ _
      have e2 := nlG_f (z := 1) (b := H.nb + 1) (n := (sk C (i + 1)).length) (by omega)
      rw [hl2] at e2
      clear hf1 hf2
      by_cases h0 : (sk C i).length = 0
      · have e0 := nlG_t (z := 1) (b := ob) h0
        have hsk0 : sk C i = [] := List.length_eq_zero_iff.1 h0
        have hl1 : (sk C (i + 1)).length = 1 := by omega
        rw [h0] at e2
        rw [hsk0] at hsn
        simp (disch := omega) only [go_sem, rst, hg, lC, e1, e0, ze, zc, zb, za]
        refine wx.callV 0 (z6 zd z7) ?_
        simp (disch := omega) only [go_sem, rst, hg, lC, e1, e0, ze, zc, zb, za]
        refine ⟨(i + 1, H.nb + 1, _), ⟨hlt, fun _ => ⟨?_, ?_⟩⟩, by simp only; omega, Wk.of (by simp only [go_sem, ↓List.forall_mem_cons, List.not_mem_nil, false_implies, implies_true, and_true, true_and, and_self, ri_eq, Int.natCast_add, Int.cast_ofNat_Int, rst, hl1, e2]; try simp) rfl⟩
        · simp only [zc, za]; omega
        · simp only [← hsn]
          simp (disch := omega) only [ze, zb, zc, za, if_pos, if_neg, ↓reduceIte]
          rfl
      · have e0 := nlG_f (z := 1) (b := ob) h0
        obtain ⟨m1, m2⟩ := hml h0
        simp (disch := omega) only [go_sem, rst, hg, lC, e1, e0, m2, hPs, hPt, hsn, ze, zc, zb, za]
        refine wx.callV 0 (z6 zd z7) ?_
        simp (disch := omega) only [go_sem, rst, hg, lC, e1, e0, m2, hPs, hPt, hsn, ze, zc, zb, za]
        refine ⟨(i + 1, H.nb + 1, _), ⟨hlt, fun _ => ⟨?_, ?_⟩⟩, by simp only; omega, Wk.of (by simp only [go_sem, ↓List.forall_mem_cons, List.not_mem_nil, false_implies, implies_true, and_true, true_and, and_self, ri_eq, Int.natCast_add, Int.cast_ofNat_Int, rst, hl2, e2]; try simp) rfl⟩
        · simp only [zc, za]; omega
        · simp (disch := omega) only [ze, zb, zc, za, if_pos, if_neg, ↓reduceIte]
  · obtain rfl : i = C.length := by omega
    generalize hX : sk C C.length = X at *
    by_cases h0 : X.length = 0
    · have e0 := nlG_t (z := 1) (b := ob) h0
      have hx0 : X = [] := List.length_eq_zero_iff.1 h0
      have w1 := Tryz.sortedSet_nil
      have hs0 : sset X = [] := by rw [hx0]; rfl
      rw [hs0, rst_nil]
      rw [rst_nil] at w1
      simp (disch := omega) only [go_sem, hX, e0]
      refine w1.callV 0 (z6 view_nilS z7) ?_
      simp (disch := omega) only [go_sem]
      exact .inr ⟨false, rfl⟩
    · have e0 := nlG_f (z := 1) (b := ob) h0
      obtain ⟨m1, m2⟩ := hml h0
      have w1 := (Tryz.sortedSet_f X (by omega) (fun e => h0 (by rw [e]; rfl))).one
      simp (disch := omega) only [go_sem, hX, e0]
      refine w1.callOne (strs_vals _) 1 (z6 (view_ownS m2 rfl) z7) ?_
      simp (disch := omega) only [go_sem]
      refine .inl ?_
      obtain ⟨H2, g1, g2, g3, g4⟩ := fin_strs (L := sset X) (n := (sset X).length) (b := H.nb) (cap := (sset X).length) (ex := false) (e2 := false) (H := H.push ⟨strs (sset X), false⟩) rfl (by rw [zb, if_pos rfl])
      exact ⟨H2, g1, g2, g3, 1, flat_viewS g4⟩
theorem dropW {L : List Wd} {k : Nat} (h : k < L.length) : L.drop k = L.getD k [] :: L.drop (k + 1) := by
  rw [List.drop_eq_getElem_cons h]; simp [h]
set_option maxHeartbeats 8000000 in
theorem Tryz.commonG_ok (A B : List Wd) (hA : A.length ≤ 2000) (hB : B.length ≤ 2000) (tA : Asc A) (tB : Asc B) (a0 : A ≠ []) (b0 : B ≠ []) : PCall Tryz.prog 227 [rst A, rst B] (.val (.int .i64 (com A B))) := by
  refine FCall.pcall (R := fun r _ => r = .val (.int .i64 (com A B))) ?_ 0 (by rintro r H rfl; exact z8)
  have wa := (Tryz.cloneS_f A (by omega) a0).one
  have wb := (Tryz.cloneS_f B (by omega) b0).one
  have lA := zj A
  have lB := zj B
  have ma := msort_self tA
  have mb := msort_self tB
  have hcl := com_le A B
  refine FCall.of_body Tryz.func227 rfl (by kernel_rfl) (by simp [Tryz.ntmps227]) ?_
  refine SW_of_vc Tryz.mixed _ _ _ (by kernel_rfl) ?_
  simp (disch := omega) only [go_sem, rst]
  refine wa.callOne (strs_vals _) 0 (z6 zf z7) ?_
  simp (disch := omega) only [go_sem, rst]
  refine wb.callOne (strs_vals _) 0 (z6 zf z7) ?_
  simp (disch := omega) only [go_sem, rst]
  refine (Tryz.sort_ok _ _ _ _ false A a0 (by omega) (by first | rfl | (simp (disch := omega) only [hx_map, hp_map, zl, zm, zk, xmap_nil, if_pos, if_neg, ↓reduceIte]; try rfl))).callX ?_
  rintro r H' ⟨rfl, rfl⟩
  simp (disch := omega) only [go_sem, rst, ma]
  refine (Tryz.sort_ok _ _ _ _ false B b0 (by omega) (by first | rfl | (simp (disch := omega) only [hx_map, hp_map, zl, zm, zk, xmap_nil, if_pos, if_neg, ↓reduceIte]; try rfl))).callX ?_
  rintro r H' ⟨rfl, rfl⟩
  simp (disch := omega) only [go_sem, rst, mb]
  refine LoopW.loop (fun y : Nat × Nat × Nat => ⟨ofL [(5, .own 0 y.1 (A.length - y.1) (A.length - y.1) 1 false), (6, .own 1 y.2.1 (B.length - y.2.1) (B.length - y.2.1) 1 false), (7, .val (.int .i64 y.2.2))], hp [(1, ⟨strs B, false⟩), (0, ⟨strs A, false⟩)] 2⟩)
    (fun y => y.1 ≤ A.length ∧ y.2.1 ≤ B.length ∧ y.2.2 + com (A.drop y.1) (B.drop y.2.1) = com A B) (fun y => (A.length - y.1) + (B.length - y.2.1)) (0, 0, 0) ⟨by simp, by simp, by simp⟩ (Wk.of (by simp only [go_sem, ↓List.forall_mem_cons, List.not_mem_nil, false_implies, implies_true, and_true, true_and, and_self, ri_eq, Int.natCast_add, Int.cast_ofNat_Int, Nat.sub_zero]; try simp) rfl) ?_
  clear wa wb
  rintro ⟨i, j, n⟩ ⟨hi, hj, hc⟩
  simp only at hi hj hc
  refine SW_of_vc Tryz.mixed _ _ _ (by kernel_rfl) ?_
  by_cases hlt : i < A.length
  · by_cases hlu : j < B.length
    · have ga := zn hlt
      have gb := zn hlu
      have da := dropW hlt
      have db := dropW hlu
      have pa : Asc (A.drop i) := List.Pairwise.drop tA
      have pb : Asc (B.drop j) := List.Pairwise.drop tB
      rw [da] at hc pa
      rw [db] at hc pb
      have n1 : A.length - i - 1 = A.length - (i + 1) := by omega
      have n2 : B.length - j - 1 = B.length - (j + 1) := by omega
      generalize A.getD i [] = a at *
      generalize B.getD j [] = b at *
      by_cases h1 : a < b
      · have d1 := decide_eq_true h1
        rw [com_lt pb h1, ← db] at hc
        simp (disch := omega) only [go_sem, ga, gb, lA, lB, d1]
        exact ⟨(i + 1, j, n), ⟨hlt, hj, hc⟩, by simp only; omega, Wk.of (by simp only [go_sem, ↓List.forall_mem_cons, List.not_mem_nil, false_implies, implies_true, and_true, true_and, and_self, ri_eq, Int.natCast_add, Int.cast_ofNat_Int, n1]; try simp) rfl⟩
      · have d1 := decide_eq_false h1
        by_cases h2 : b < a
        · have d2 := decide_eq_true h2
          rw [com_gt pa h2, ← da] at hc
          simp (disch := omega) only [go_sem, ga, gb, lA, lB, d1, d2]
          exact ⟨(i, j + 1, n), ⟨hi, hlu, hc⟩, by simp only; omega, Wk.of (by simp only [go_sem, ↓List.forall_mem_cons, List.not_mem_nil, false_implies, implies_true, and_true, true_and, and_self, ri_eq, Int.natCast_add, Int.cast_ofNat_Int, n2]; try simp) rfl⟩
        · have d2 := decide_eq_false h2
          have hab : a = b := by
            rcases Classical.em (a = b) with h | h
            · exact h
            · exact absurd (wlt_tri h1 h) h2
          rw [hab] at hc pa
          rw [com_eq pa] at hc
          have hcc : (n : Int) + 1 = ((n + 1 : Nat) : Int) := by omega
          simp (disch := omega) only [go_sem, ga, gb, lA, lB, d1, d2]
          exact ⟨(i + 1, j + 1, n + 1), ⟨hlt, hlu, by simp only; omega⟩, by simp only; omega, Wk.of (by simp only [go_sem, ↓List.forall_mem_cons, List.not_mem_nil, false_implies, implies_true, and_true, true_and, and_self, ri_eq, Int.natCast_add, Int.cast_ofNat_Int, n1, n2]; try simp) rfl⟩
    · obtain rfl : j = B.length := by omega
      have hz : com (A.drop i) [] = 0 := by simp [com]
      rw [List.drop_length, hz] at hc
      simp (disch := omega) only [go_sem]
      exact Fin.val (by rw [← hc]; rfl)
  · obtain rfl : i = A.length := by omega
    have hz : com [] (B.drop j) = 0 := by simp [com]
    rw [List.drop_length, hz] at hc
    simp (disch := omega) only [go_sem]
    exact Fin.val (by rw [← hc]; rfl)
theorem Tryz.overlap_ok (A B : List Wd) (hA : A.length ≤ 2000) (hB : B.length ≤ 2000) (tA : Asc A) (tB : Asc B) (a0 : A ≠ []) (b0 : B ≠ []) : PCall Tryz.prog 187 [rst A, rst B] (.val (.int .i64 (com A B))) := by
  refine FCall.pcall (R := fun r _ => r = .val (.int .i64 (com A B))) ?_ 0 (by rintro r H rfl; exact z8)
  refine FCall.of_body Tryz.func187 rfl (by kernel_rfl) (by simp [Tryz.ntmps187]) ?_
  refine SW_of_vc Tryz.mixed _ _ _ (by kernel_rfl) ?_
  simp (disch := omega) only [go_sem, rst]
  refine (Tryz.commonG_ok A B hA hB tA tB a0 b0).callV 0 (z6 zf (z6 zf z7)) ?_
  simp (disch := omega) only [go_sem, rst]
  exact Fin.val rfl
set_option maxHeartbeats 2000000 in
theorem Tryz.quot_ok (n d : Int) (hn : 0 ≤ n ∧ n ≤ 1048576) (hd : n ≤ d ∧ d ≤ 4000000) : PCall Tryz.prog 188 [.val (.int .i64 (1000 * n)), .val (.int .i64 d)] (.val (.int .i64 (if d = 0 then 1000 else (1000 * n).tdiv d))) := by
  refine FCall.pcall (R := fun r _ => r = .val (.int .i64 (if d = 0 then 1000 else (1000 * n).tdiv d))) ?_ 0 (by rintro r H rfl; exact z8)
  refine FCall.of_body Tryz.func188 rfl (by kernel_rfl) (by simp [Tryz.ntmps188]) ?_
  refine SW_of_vc Tryz.mixed _ _ _ (by kernel_rfl) ?_
  by_cases h : d = 0
  · have e1 : (d == 0) = true := by rw [h]; rfl
    rw [if_pos h]
    simp (disch := omega) only [go_sem, e1]
    exact Fin.val rfl
  · have e1 : (d == 0) = false := beq_eq_false_iff_ne.2 h
    have hq := td_b (x := n) (m := d) hn.1 hd.1 (by omega)
    rw [if_neg h]
    simp (disch := omega) only [go_sem, e1]
    exact Fin.val (by first | (rw [wrap_id (by omega) (by omega)]; done) | rfl)
set_option maxHeartbeats 4000000 in
theorem Tryz.implJac_ok (A B : List Wd) (hA : SL A) (hB : SL B) (tA : TS A) (tB : TS B) (lA : A.length ≤ 2000) (lB : B.length ≤ 2000) (a0 : A ≠ []) (b0 : B ≠ []) : PCall Tryz.prog 141 [rst A, rst B] (.val (.int .i64 (jac A B))) := by
  refine FCall.pcall (R := fun r _ => r = .val (.int .i64 (jac A B))) ?_ 0 (by rintro r H rfl; exact z8)
  have w0 := Tryz.areTS_ok A B hA hB tA tB
  have w1 := Tryz.overlap_ok A B lA lB tA.1 tB.1 a0 b0
  have c3 := com_le A B
  have c4 := com_symm tA.1 tB.1
  have c5 := com_le B A
  rw [jac]
  generalize com A B = c at *
  have wr := Tryz.quot_ok (c : Int) ((A.length : Int) + B.length - c) (by omega) (by omega)
  refine FCall.of_body Tryz.func141 rfl (by kernel_rfl) (by simp [Tryz.ntmps141]) ?_
  refine SW_of_vc Tryz.mixed _ _ _ (by kernel_rfl) ?_
  simp (disch := omega) only [go_sem, rst]
  refine w0.callV 0 (z6 zf (z6 zf z7)) ?_
  simp (disch := omega) only [go_sem, rst]
  refine w1.callV 0 (z6 zf (z6 zf z7)) ?_
  simp (disch := omega) only [go_sem, rst]
  refine wr.callV 0 (z6 (z8) (z6 (z8) z7)) ?_
  simp (disch := omega) only [go_sem, rst]
  exact Fin.val rfl
set_option maxHeartbeats 4000000 in
theorem Tryz.implSts_ok (A B : List Wd) (hA : SL A) (hB : SL B) (tA : TS A) (tB : TS B) (lA : A.length ≤ 2000) (lB : B.length ≤ 2000) : PCall Tryz.prog 95 [rst A, rst B] (.val (.int .i64 (sts A B))) := by
  refine FCall.pcall (R := fun r _ => r = .val (.int .i64 (sts A B))) ?_ 0 (by rintro r H rfl; exact z8)
  rw [sts]
  refine FCall.of_body Tryz.func95 rfl (by kernel_rfl) (by simp [Tryz.ntmps95]) ?_
  refine SW_of_vc Tryz.mixed _ _ _ (by kernel_rfl) ?_
  by_cases h1 : A = []
  · have e1 : ((A.length : Int) == 0) = true := by rw [h1]; rfl
    rw [if_pos (.inl h1)]
    simp (disch := omega) only [go_sem, rst, e1]
    exact Fin.val rfl
  · have e1 : ((A.length : Int) == 0) = false := by
      have := List.length_pos_iff.2 h1
      rw [beq_eq_false_iff_ne]; omega
    by_cases h2 : B = []
    · have e2 : ((B.length : Int) == 0) = true := by rw [h2]; rfl
      rw [if_pos (.inr h2)]
      simp (disch := omega) only [go_sem, rst, e1, e2]
      exact Fin.val rfl
    · have e2 : ((B.length : Int) == 0) = false := by
        have := List.length_pos_iff.2 h2
        rw [beq_eq_false_iff_ne]; omega
      rw [if_neg (by simp [h1, h2])]
      have w := Tryz.implJac_ok A B hA hB tA tB lA lB h1 h2
      simp (disch := omega) only [go_sem, rst, e1, e2]
      refine w.callV 0 (z6 zf (z6 zf z7)) ?_
      simp (disch := omega) only [go_sem, rst]
      exact Fin.val rfl
end Go.Sh

/-
  The edit distance: the program's table; scores.
-/
namespace Go.Sh
open Go Go.Proofs

theorem eMs {a b : List UInt8} {i j : Nat} (hj : j ≤ b.length) : mset (eM a b i ++ [edR a b i j]) i j (ed a b i j : Int) = eM a b i ++ [edR a b i (j + 1)] := by
  have hr : mrow (eM a b i ++ [edR a b i j]) i = edR a b i j := by
    have := mrow_at (M := eM a b i) (L := edR a b i j)
    rwa [eM_length] at this
  have e : mset (eM a b i ++ [edR a b i j]) i j (ed a b i j : Int) = (eM a b i ++ [edR a b i j]).set i ((mrow (eM a b i ++ [edR a b i j]) i).set j (ed a b i j : Int)) := rfl
  rw [e, hr, edR_set hj, List.set_append_right _ _ (by rw [eM_length]; omega), eM_length, Nat.sub_self]
  rfl
set_option maxRecDepth 20000 in
set_option maxHeartbeats 16000000 in
theorem Tryz.distances_ok (a b : List UInt8) (ha : a.length ≤ 40) (hb : b.length ≤ 40) : PCall Tryz.prog 251 [str a, str b, .val (.bool false)] (rr (eM a b (a.length + 1))) := by
  refine FCall.pcall (R := fun r H => Sh.view H 3 r = some (rr (eM a b (a.length + 1)))) ?_ 3 (fun _ _ h => h)
  refine FCall.of_body Tryz.func251 rfl (by kernel_rfl) (by simp [Tryz.ntmps251]) ?_
  refine SW_of_vc Tryz.mixed _ _ _ (by kernel_rfl) ?_
  have hal : (a.length : Int) + 1 = ((a.length + 1 : Nat) : Int) := by omega
  generalize hN : a.length + 1 = N at *
  have hrep0 : List.replicate N (SV.val (.slice none 0 0)) = List.replicate N (SV.val (.slice none 0 0)) := rfl
  simp (disch := omega) only [go_sem, hal]
  refine LoopW.loop (fun y : Nat × List SV × (Nat → Nat) × Heap => ⟨ofL [(0, str a), (1, str b), (2, .val (.bool false)), (7, .own 0 0 N N 1 true), (16, .val (.int .i64 N)), (17, .val (.int .i64 y.1))], y.2.2.2⟩)
    (fun y => y.1 ≤ N ∧ y.2.1.length = N ∧ TabH y.2.2.2 0 true y.2.1 y.2.2.1 (eM a b y.1)) (fun y => N - y.1) (0, List.replicate N (.val (.slice none 0 0)), fun _ => 0, (hp [] 0).push ⟨List.replicate N (.val (.slice none 0 0)), true⟩)
    ⟨by simp, by simp, ⟨by simp [eM], by show ((hp [] 0).push _).map 0 = _; rw [zb]; rfl, fun i hi => absurd hi (by simp [eM]), fun i j hi => absurd hi (by simp [eM]), by show 0 < ((hp [] 0).push _).nb; rw [za]; show 0 < 0 + 1; omega, fun i hi => absurd hi (by simp [eM])⟩⟩ (Wk.of (by simp only [go_sem, ↓List.forall_mem_cons, List.not_mem_nil, false_implies, implies_true, and_true, true_and, and_self, ri_eq, Int.natCast_add, Int.cast_ofNat_Int]; try simp) rfl) ?_
  rintro ⟨i, cs, nm, H⟩ ⟨hi, hcl, hM⟩
  simp only at hi hcl hM
  refine SW_of_vc Tryz.mixed _ _ _ (by kernel_rfl) ?_
  by_cases hlt : i < N
  · have hrep : List.replicate (b.length + 1) (SV.val (.int .i64 0)) = ints (edR a b i 0) := by rw [edR_0]; simp [ints]
    have hbl : (b.length : Int) + 1 = ((b.length + 1 : Nat) : Int) := by omega
    have ho := hM.o
    have hel := eM_length a b i
    have hlo := hM.lo1
    have hn2 : ∀ r, r < (eM a b i).length → nm r < H.nb ∧ nm r ≠ 0 := hM.lo2
    have hset0 : ∀ v : SV, (cs.set i v)[i]? = some v := fun v => by simp [hcl, hlt]
    simp (disch := omega) only [go_sem, hbl, hrep, ho, hcl, hset0, List.length_set, ze, zc, zb, za]
    have hM0 : TabH ((H.push ⟨ints (edR a b i 0), true⟩).set 0 (some ⟨cs.set i (.own H.nb 0 (b.length + 1) (b.length + 1) 1 true), true⟩)) 0 true (cs.set i (.own H.nb 0 (b.length + 1) (b.length + 1) 1 true)) (fun r => if r < (eM a b i).length then nm r else H.nb) (eM a b i ++ [edR a b i 0]) := by
      refine hM.snoc (r := H.nb) (L := edR a b i 0) ?_ ?_ (fun r hr => ?_) ?_ (fun r hr => ?_) ?_ ⟨?_, fun r hr => ?_⟩ ⟨?_, by omega, fun r hr => ?_⟩
      · simp (disch := omega) only [ze, zb, zc, za, if_pos, if_neg, ↓reduceIte]
      · simp (disch := omega) only [ze, zb, zc, za, if_pos, if_neg, ↓reduceIte]
      · rw [List.getElem?_set_ne (by omega)]
      · rw [hel, hset0, edR_length]
      · have := hn2 r hr
        simp (disch := omega) only [ze, zb, zc, za, if_neg, ↓reduceIte]
      · simp only [zc, za]; omega
      · simp only [zc, za]; omega
      · exact (hn2 r hr).2
      · simp only [zc, za]; omega
      · have := hn2 r hr; omega
    have hc1 : (cs.set i (.own H.nb 0 (b.length + 1) (b.length + 1) 1 true)).length = N := by rw [List.length_set, hcl]
    have hnm : (fun r => if r < (eM a b i).length then nm r else H.nb) i = H.nb := by show (if i < (eM a b i).length then nm i else H.nb) = H.nb; rw [if_neg (by omega)]
    generalize cs.set i (.own H.nb 0 (b.length + 1) (b.length + 1) 1 true) = cs1 at *
    generalize (fun r => if r < (eM a b i).length then nm r else H.nb) = nm1 at *
    refine LoopW.loop (fun y : Nat × Heap => ⟨ofL [(0, str a), (1, str b), (2, .val (.bool false)), (7, .own 0 0 N N 1 true), (8, .val (.int .i64 i)), (16, .val (.int .i64 N)), (17, .val (.int .i64 i)), (31, .val (.int .i64 ((b.length + 1 : Nat) : Int))), (32, .val (.int .i64 y.1))], y.2⟩)
      (fun y => y.1 ≤ b.length + 1 ∧ TabH y.2 0 true cs1 nm1 (eM a b i ++ [edR a b i y.1])) (fun y => b.length + 1 - y.1) (0, (H.push ⟨ints (edR a b i 0), true⟩).set 0 (some ⟨cs1, true⟩))
      ⟨by simp, hM0⟩ (Wk.of (by simp only [go_sem, ↓List.forall_mem_cons, List.not_mem_nil, false_implies, implies_true, and_true, true_and, and_self, ri_eq, Int.natCast_add, Int.cast_ofNat_Int]; try simp) rfl) ?_
    clear hM0 hM hlo hn2
    rintro ⟨j, H1⟩ ⟨hj, hM1⟩
    simp only at hj hM1
    refine SW_of_vc Tryz.mixed _ _ _ (by kernel_rfl) ?_
    by_cases hjl : j ≤ b.length
    · have hmi : mrow (eM a b i ++ [edR a b i j]) i = edR a b i j := by
        have := mrow_at (M := eM a b i) (L := edR a b i j)
        rwa [hel] at this
      obtain ⟨r1, r2⟩ := hM1.row i (by simp [hel])
      rw [hmi, edR_length, hnm] at r1
      rw [hmi, hnm] at r2
      have ho1 := hM1.o
      have hil : (ints (edR a b i j)).length = b.length + 1 := by rw [zh, edR_length]
      have hset : (ints (edR a b i j)).set j (.val (.int .i64 (ed a b i j : Int))) = ints (edR a b i (j + 1)) := by rw [ints_setE, edR_set hjl]
      have fin := hM1.set (i := i) (k := j) (x := (ed a b i j : Int)) (by simp [hel])
      rw [eMs hjl, hmi, edR_set hjl, hnm] at fin
      by_cases h0 : i = 0
      · have e1 : ((i : Int) == 0) = true := by rw [h0]; rfl
        rw [h0, ed_0, ← h0] at hset
        simp (disch := omega) only [go_sem, e1, ho1, hc1, r1, r2, hil, hset]
        exact ⟨(j + 1, _), ⟨by show j + 1 ≤ b.length + 1; omega, fin⟩, by show b.length + 1 - (j + 1) < b.length + 1 - j; omega, Wk.of (by simp only [go_sem, ↓List.forall_mem_cons, List.not_mem_nil, false_implies, implies_true, and_true, true_and, and_self, ri_eq, Int.natCast_add, Int.cast_ofNat_Int]; try simp) rfl⟩
      · have e1 : ((i : Int) == 0) = false := by rw [beq_eq_false_iff_ne]; omega
        by_cases hj0 : j = 0
        · have e2 : ((j : Int) == 0) = true := by rw [hj0]; rfl
          rw [show ed a b i j = i by rw [hj0, ed_r0]] at hset
          simp (disch := omega) only [go_sem, e1, e2, ho1, hc1, r1, r2, hil, hset]
          exact ⟨(j + 1, _), ⟨by show j + 1 ≤ b.length + 1; omega, fin⟩, by show b.length + 1 - (j + 1) < b.length + 1 - j; omega, Wk.of (by simp only [go_sem, ↓List.forall_mem_cons, List.not_mem_nil, false_implies, implies_true, and_true, true_and, and_self, ri_eq, Int.natCast_add, Int.cast_ofNat_Int]; try simp) rfl⟩
        · have e2 : ((j : Int) == 0) = false := by rw [beq_eq_false_iff_ne]; omega
          obtain ⟨i', hi'⟩ : ∃ i', i = i' + 1 := ⟨i - 1, by omega⟩
          obtain ⟨j', hj'⟩ : ∃ j', j = j' + 1 := ⟨j - 1, by omega⟩
          have ci : (i : Int) - 1 = (i' : Int) := by omega
          have cj : (j : Int) - 1 = (j' : Int) := by omega
          have ia := sb_ix (s := a) (i := i') (by omega)
          have ib := sb_ix (s := b) (i := j') (by omega)
          obtain ⟨p1, p2⟩ := hM1.row i' (by simp [hel]; omega)
          rw [mrow_lt (by omega), eM_row (by omega), eRow, edR_length] at p1
          rw [mrow_lt (by omega), eM_row (by omega)] at p2
          have gl : (ints (eRow a b i')).length = b.length + 1 := by rw [zh, eRow, edR_length]
          have g1 : (ints (eRow a b i'))[j']? = some (.val (.int .i64 (ed a b i' j' : Int))) := by rw [ints_get (by rw [eRow, edR_length]; omega), eRow_at (by omega)]
          have g2 : (ints (eRow a b i'))[j]? = some (.val (.int .i64 (ed a b i' j : Int))) := by rw [ints_get (by rw [eRow, edR_length]; omega), eRow_at hjl]
          have g3 : (ints (edR a b i j))[j']? = some (.val (.int .i64 (ed a b i j' : Int))) := by rw [ints_get (by rw [edR_length]; omega), edR_at (by omega) (by omega)]
          have hv := ed_impl a b i' j'
          have q1 := ed_le a b i' (j' + 1)
          have q2 := ed_le a b (i' + 1) j'
          have q3 := ed_le a b i' j'
          rw [← hi', ← hj'] at hv
          rw [← hj'] at q1
          rw [← hi'] at q2
          generalize ed a b i' j = x at *
          generalize ed a b i j' = y at *
          generalize ed a b i' j' = z at *
          generalize ed a b i j = v at *
          by_cases he : a.getD i' 0 = b.getD j' 0
          · have e3 := u8_eq he
            rw [if_pos he] at hv
            rcases (by omega : (x + 1 ≤ y + 1 ∧ x + 1 ≤ z) ∨ (y < x ∧ y + 1 ≤ z) ∨ (z < x + 1 ∧ z < y + 1)) with hc | hc | hc
            · have hv2 : (x : Int) + 1 = (v : Int) := by omega
              simp (disch := omega) only [go_sem, e1, e2, ci, cj, ia, ib, e3, ho1, hc1, r1, r2, p1, p2, hil, gl, g1, g2, g3, hv2, hset]
              exact ⟨(j + 1, _), ⟨by show j + 1 ≤ b.length + 1; omega, fin⟩, by show b.length + 1 - (j + 1) < b.length + 1 - j; omega, Wk.of (by simp only [go_sem, ↓List.forall_mem_cons, List.not_mem_nil, false_implies, implies_true, and_true, true_and, and_self, ri_eq, Int.natCast_add, Int.cast_ofNat_Int]; try simp) rfl⟩
            · have hv2 : (y : Int) + 1 = (v : Int) := by omega
              simp (disch := omega) only [go_sem, e1, e2, ci, cj, ia, ib, e3, ho1, hc1, r1, r2, p1, p2, hil, gl, g1, g2, g3, hv2, hset]
              exact ⟨(j + 1, _), ⟨by show j + 1 ≤ b.length + 1; omega, fin⟩, by show b.length + 1 - (j + 1) < b.length + 1 - j; omega, Wk.of (by simp only [go_sem, ↓List.forall_mem_cons, List.not_mem_nil, false_implies, implies_true, and_true, true_and, and_self, ri_eq, Int.natCast_add, Int.cast_ofNat_Int]; try simp) rfl⟩
            · have hv2 : (z : Int) + 0 = (v : Int) := by omega
              simp (disch := omega) only [go_sem, e1, e2, ci, cj, ia, ib, e3, ho1, hc1, r1, r2, p1, p2, hil, gl, g1, g2, g3, hv2, hset]
              exact ⟨(j + 1, _), ⟨by show j + 1 ≤ b.length + 1; omega, fin⟩, by show b.length + 1 - (j + 1) < b.length + 1 - j; omega, Wk.of (by simp only [go_sem, ↓List.forall_mem_cons, List.not_mem_nil, false_implies, implies_true, and_true, true_and, and_self, ri_eq, Int.natCast_add, Int.cast_ofNat_Int]; try simp) rfl⟩
          · have e3 := u8_ne he
            rw [if_neg he] at hv
            rcases (by omega : (x ≤ y ∧ x ≤ z) ∨ (y < x ∧ y ≤ z) ∨ (z < x ∧ z < y)) with hc | hc | hc
            · have hv2 : (x : Int) + 1 = (v : Int) := by omega
              simp (disch := omega) only [go_sem, e1, e2, ci, cj, ia, ib, e3, ho1, hc1, r1, r2, p1, p2, hil, gl, g1, g2, g3, hv2, hset]
              exact ⟨(j + 1, _), ⟨by show j + 1 ≤ b.length + 1; omega, fin⟩, by show b.length + 1 - (j + 1) < b.length + 1 - j; omega, Wk.of (by simp only [go_sem, ↓List.forall_mem_cons, List.not_mem_nil, false_implies, implies_true, and_true, true_and, and_self, ri_eq, Int.natCast_add, Int.cast_ofNat_Int]; try simp) rfl⟩
            · have hv2 : (y : Int) + 1 = (v : Int) := by omega
              simp (disch := omega) only [go_sem, e1, e2, ci, cj, ia, ib, e3, ho1, hc1, r1, r2, p1, p2, hil, gl, g1, g2, g3, hv2, hset]
              exact ⟨(j + 1, _), ⟨by show j + 1 ≤ b.length + 1; omega, fin⟩, by show b.length + 1 - (j + 1) < b.length + 1 - j; omega, Wk.of (by simp only [go_sem, ↓List.forall_mem_cons, List.not_mem_nil, false_implies, implies_true, and_true, true_and, and_self, ri_eq, Int.natCast_add, Int.cast_ofNat_Int]; try simp) rfl⟩
            · have hv2 : (z : Int) + 1 = (v : Int) := by omega
              simp (disch := omega) only [go_sem, e1, e2, ci, cj, ia, ib, e3, ho1, hc1, r1, r2, p1, p2, hil, gl, g1, g2, g3, hv2, hset]
              exact ⟨(j + 1, _), ⟨by show j + 1 ≤ b.length + 1; omega, fin⟩, by show b.length + 1 - (j + 1) < b.length + 1 - j; omega, Wk.of (by simp only [go_sem, ↓List.forall_mem_cons, List.not_mem_nil, false_implies, implies_true, and_true, true_and, and_self, ri_eq, Int.natCast_add, Int.cast_ofNat_Int]; try simp) rfl⟩
    · obtain rfl : j = b.length + 1 := by omega
      simp (disch := omega) only [go_sem]
      refine ⟨(i + 1, cs1, nm1, H1), ⟨hlt, hc1, ?_⟩, by show N - (i + 1) < N - i; omega, Wk.of (by simp only [go_sem, ↓List.forall_mem_cons, List.not_mem_nil, false_implies, implies_true, and_true, true_and, and_self, ri_eq, Int.natCast_add, Int.cast_ofNat_Int]; try simp) rfl⟩
      show TabH H1 0 true cs1 nm1 (eM a b (i + 1))
      rw [eM_succ]; exact hM1
  · obtain rfl : i = N := by omega
    simp (disch := omega) only [go_sem]
    have := fin_tab (cap := i) (e := true) hM (by rw [eM_length]; exact hcl)
    rw [eM_length] at this
    exact this
end Go.Sh

/-
  The edit distance and the scores of texts: contracts.
-/
namespace Go.Sh
open Go Go.Proofs

theorem dist_t {a b : List UInt8} (ha : a.length ≤ 40) (hb : b.length ≤ 40) : dist a b = (ed a b a.length b.length : Int) := by rw [dist, if_pos ⟨ha, hb⟩]
theorem dist_f {a b : List UInt8} (h : ¬ (a.length ≤ 40 ∧ b.length ≤ 40)) : dist a b = -1 := if_neg h
theorem dist_ge (a b : List UInt8) : -1 ≤ dist a b := by rw [dist]; split <;> omega
set_option maxHeartbeats 4000000 in
theorem Tryz.l4Fits_ok (a b : List UInt8) (ha : a.length ≤ 1048576) (hb : b.length ≤ 1048576) : PCall Tryz.prog 202 [str a, str b] (.val (.bool (decide (a.length ≤ 40 ∧ b.length ≤ 40)))) := by
  refine FCall.pcall (R := fun r _ => r = .val (.bool (decide (a.length ≤ 40 ∧ b.length ≤ 40)))) ?_ 0 (by rintro r H rfl; exact zg)
  refine FCall.of_body Tryz.func202 rfl (by kernel_rfl) (by simp [Tryz.ntmps202]) ?_
  refine SW_of_vc Tryz.mixed _ _ _ (by kernel_rfl) ?_
  by_cases h1 : a.length ≤ 40
  · have e : decide (a.length ≤ 40 ∧ b.length ≤ 40) = decide ((b.length : Int) ≤ 40) := decide_eq_decide.2 (by omega)
    rw [e]
    simp (disch := omega) only [go_sem]
    exact Fin.val rfl
  · have e : decide (a.length ≤ 40 ∧ b.length ≤ 40) = false := decide_eq_false (by omega)
    rw [e]
    simp (disch := omega) only [go_sem]
    exact Fin.val rfl
theorem eM_rows {a b : List UInt8} : (rows (eM a b (a.length + 1)))[a.length]? = some (.row (b.length + 1) false (ints (eRow a b a.length))) := by
  rw [rows_get (by rw [eM_length]; omega), eM_row (by omega), eRow, edR_length]
theorem eM_rl {a b : List UInt8} : (rows (eM a b (a.length + 1))).length = a.length + 1 := by simp [rows, eM_length]
theorem eM_last {a b : List UInt8} : (ints (eRow a b a.length))[b.length]? = some (.val (.int .i64 (ed a b a.length b.length : Int))) := by
  rw [ints_get (by rw [eRow, edR_length]; omega), eRow_at (Nat.le_refl _)]
theorem eRow_il {a b : List UInt8} {i : Nat} : (ints (eRow a b i)).length = b.length + 1 := by rw [zh, eRow, edR_length]
set_option maxHeartbeats 4000000 in
theorem Tryz.specED_ok (a b : List UInt8) (ha : a.length ≤ 1048576) (hb : b.length ≤ 1048576) : PCall Tryz.prog 159 [str a, str b] (.val (.int .i64 (dist a b))) := by
  refine FCall.pcall (R := fun r _ => r = .val (.int .i64 (dist a b))) ?_ 0 (by rintro r H rfl; exact z8)
  have w := Tryz.l4Fits_ok a b ha hb
  refine FCall.of_body Tryz.func159 rfl (by kernel_rfl) (by simp [Tryz.ntmps159]) ?_
  refine SW_of_vc Tryz.mixed _ _ _ (by kernel_rfl) ?_
  by_cases h : a.length ≤ 40 ∧ b.length ≤ 40
  · rw [decide_eq_true h] at w
    rw [dist_t h.1 h.2]
    have h1 := h.1
    have h2 := h.2
    have g1 := eM_rows (a := a) (b := b)
    have g2 := eM_last (a := a) (b := b)
    have gl := eRow_il (a := a) (b := b) (i := a.length)
    have el := eM_length a b (a.length + 1)
    simp (disch := omega) only [go_sem, rr_eq, g1, g2, gl, el, eM_rl]
    refine w.callV 0 (z6 zd (z6 zd z7)) ?_
    simp (disch := omega) only [go_sem, rr_eq, g1, g2, gl, el, eM_rl]
    refine (Tryz.l4Table_ok a b h1 h2).callV 0 (z6 zd (z6 zd (z6 zg z7))) ?_
    simp (disch := omega) only [go_sem, rr_eq, g1, g2, gl, el, eM_rl]
    exact Fin.val rfl
  · rw [decide_eq_false h] at w
    rw [dist_f h]
    simp (disch := omega) only [go_sem]
    refine w.callV 0 (z6 zd (z6 zd z7)) ?_
    simp (disch := omega) only [go_sem]
    exact Fin.val rfl
set_option maxHeartbeats 4000000 in
theorem Tryz.distance_ok (a b : List UInt8) (ha : a.length ≤ 1048576) (hb : b.length ≤ 1048576) : PCall Tryz.prog 225 [str a, str b, .val (.bool false)] (.val (.int .i64 (dist a b))) := by
  refine FCall.pcall (R := fun r _ => r = .val (.int .i64 (dist a b))) ?_ 0 (by rintro r H rfl; exact z8)
  refine FCall.of_body Tryz.func225 rfl (by kernel_rfl) (by simp [Tryz.ntmps225]) ?_
  refine SW_of_vc Tryz.mixed _ _ _ (by kernel_rfl) ?_
  by_cases h1 : a.length ≤ 40
  · by_cases h2 : b.length ≤ 40
    · rw [dist_t h1 h2]
      have g1 := eM_rows (a := a) (b := b)
      have g2 := eM_last (a := a) (b := b)
      have gl := eRow_il (a := a) (b := b) (i := a.length)
      have el := eM_length a b (a.length + 1)
      simp (disch := omega) only [go_sem, rr_eq, g1, g2, gl, el, eM_rl]
      refine (Tryz.distances_ok a b h1 h2).callV 0 (z6 zd (z6 zd (z6 zg z7))) ?_
      simp (disch := omega) only [go_sem, rr_eq, g1, g2, gl, el, eM_rl]
      exact Fin.val rfl
    · rw [dist_f (by omega)]
      simp (disch := omega) only [go_sem]
      exact Fin.val rfl
  · rw [dist_f (by omega)]
    simp (disch := omega) only [go_sem]
    exact Fin.val rfl
theorem Tryz.implED_ok (a b : List UInt8) (ha : a.length ≤ 1048576) (hb : b.length ≤ 1048576) : PCall Tryz.prog 185 [str a, str b] (.val (.int .i64 (dist a b))) := by
  refine FCall.pcall (R := fun r _ => r = .val (.int .i64 (dist a b))) ?_ 0 (by rintro r H rfl; exact z8)
  refine FCall.of_body Tryz.func185 rfl (by kernel_rfl) (by simp [Tryz.ntmps185]) ?_
  refine SW_of_vc Tryz.mixed _ _ _ (by kernel_rfl) ?_
  simp (disch := omega) only [go_sem]
  refine (Tryz.distance_ok a b ha hb).callV 0 (z6 zd (z6 zd (z6 zg z7))) ?_
  simp (disch := omega) only [go_sem]
  exact Fin.val rfl
set_option maxHeartbeats 4000000 in
theorem Tryz.specES_ok (a b : List UInt8) (ha : a.length ≤ 1048576) (hb : b.length ≤ 1048576) : PCall Tryz.prog 115 [str a, str b] (.val (.int .i64 (escore a b))) := by
  refine FCall.pcall (R := fun r _ => r = .val (.int .i64 (escore a b))) ?_ 0 (by rintro r H rfl; exact z8)
  have w := Tryz.specED_ok a b ha hb
  have hd := dist_le (a := a) (b := b)
  have hg := dist_ge a b
  have em : (if (a.length : Int) < (b.length : Int) then (b.length : Int) else (a.length : Int)) = ((max a.length b.length : Nat) : Int) := by split <;> omega
  have hm : max a.length b.length ≤ 1048576 := by omega
  rw [escore]
  generalize max a.length b.length = m at *
  generalize dist a b = d at *
  refine FCall.of_body Tryz.func115 rfl (by kernel_rfl) (by simp [Tryz.ntmps115]) ?_
  refine SW_of_vc Tryz.mixed _ _ _ (by kernel_rfl) ?_
  by_cases h1 : d < 0
  · rw [if_pos h1]
    simp (disch := omega) only [go_sem, em]
    refine w.callV 0 (z6 zd (z6 zd z7)) ?_
    simp (disch := omega) only [go_sem, em]
    exact Fin.val rfl
  · rw [if_neg h1]
    by_cases h2 : m = 0
    · have e2 : ((m : Int) == 0) = true := by rw [h2]; rfl
      rw [if_pos h2]
      simp (disch := omega) only [go_sem, em, e2]
      refine w.callV 0 (z6 zd (z6 zd z7)) ?_
      simp (disch := omega) only [go_sem, em, e2]
      exact Fin.val rfl
    · have e2 : ((m : Int) == 0) = false := by rw [beq_eq_false_iff_ne]; omega
      have hq := td_b (x := (m : Int) - d) (m := m) (by omega) (by omega) (by omega)
      rw [if_neg h2]
      simp (disch := omega) only [go_sem, em, e2]
      refine w.callV 0 (z6 zd (z6 zd z7)) ?_
      simp (disch := omega) only [go_sem, em, e2]
      exact Fin.val (by first | (rw [wrap_id (by omega) (by omega)]; done) | rfl)
set_option maxHeartbeats 4000000 in
theorem Tryz.implES_ok (a b : List UInt8) (ha : a.length ≤ 1048576) (hb : b.length ≤ 1048576) : PCall Tryz.prog 140 [str a, str b] (.val (.int .i64 (escore a b))) := by
  refine FCall.pcall (R := fun r _ => r = .val (.int .i64 (escore a b))) ?_ 0 (by rintro r H rfl; exact z8)
  have w := Tryz.implED_ok a b ha hb
  have hd := dist_le (a := a) (b := b)
  have hg := dist_ge a b
  have em : (if (a.length : Int) < (b.length : Int) then (b.length : Int) else (a.length : Int)) = ((max a.length b.length : Nat) : Int) := by split <;> omega
  have hm : max a.length b.length ≤ 1048576 := by omega
  rw [escore]
  generalize max a.length b.length = m at *
  generalize dist a b = d at *
  refine FCall.of_body Tryz.func140 rfl (by kernel_rfl) (by simp [Tryz.ntmps140]) ?_
  refine SW_of_vc Tryz.mixed _ _ _ (by kernel_rfl) ?_
  by_cases h1 : d < 0
  · rw [if_pos h1]
    simp (disch := omega) only [go_sem, em]
    refine w.callV 0 (z6 zd (z6 zd z7)) ?_
    simp (disch := omega) only [go_sem, em]
    exact Fin.val rfl
  · rw [if_neg h1]
    by_cases h2 : m = 0
    · have e2 : ((m : Int) == 0) = true := by rw [h2]; rfl
      rw [if_pos h2]
      simp (disch := omega) only [go_sem, em, e2]
      refine w.callV 0 (z6 zd (z6 zd z7)) ?_
      simp (disch := omega) only [go_sem, em, e2]
      exact Fin.val rfl
    · have e2 : ((m : Int) == 0) = false := by rw [beq_eq_false_iff_ne]; omega
      have hq := td_b (x := (m : Int) - d) (m := m) (by omega) (by omega) (by omega)
      rw [if_neg h2]
      simp (disch := omega) only [go_sem, em, e2]
      refine w.callV 0 (z6 zd (z6 zd z7)) ?_
      simp (disch := omega) only [go_sem, em, e2]
      exact Fin.val (by first | (rw [wrap_id (by omega) (by omega)]; done) | rfl)
set_option maxHeartbeats 4000000 in
theorem Tryz.specTS_ok (a b : List UInt8) (ha : a.length ≤ 1048576) (hb : b.length ≤ 1048576) : PCall Tryz.prog 66 [str a, str b] (.val (.int .i64 (tsc a b))) := by
  refine FCall.pcall (R := fun r _ => r = .val (.int .i64 (tsc a b))) ?_ 0 (by rintro r H rfl; exact z8)
  have wa := Tryz.specNrm_ok a ha
  have wb := Tryz.specNrm_ok b hb
  have hla := nrm_length a
  have hlb := nrm_length b
  rw [tsc]
  generalize nrm a = x at *
  generalize nrm b = y at *
  have ws := Tryz.specES_ok x y (by omega) (by omega)
  refine FCall.of_body Tryz.func66 rfl (by kernel_rfl) (by simp [Tryz.ntmps66]) ?_
  refine SW_of_vc Tryz.mixed _ _ _ (by kernel_rfl) ?_
  by_cases h1 : x = []
  · have e1 : (x == []) = true := by rw [h1]; rfl
    rw [if_pos (.inl h1)]
    simp (disch := omega) only [go_sem, e1]
    refine wa.callV 0 (z6 zd z7) ?_
    simp (disch := omega) only [go_sem, e1]
    refine wb.callV 0 (z6 zd z7) ?_
    simp (disch := omega) only [go_sem, e1]
    exact Fin.val rfl
  · have e1 : (x == []) = false := beq_eq_false_iff_ne.2 h1
    by_cases h2 : y = []
    · have e2 : (y == []) = true := by rw [h2]; rfl
      rw [if_pos (.inr h2)]
      simp (disch := omega) only [go_sem, e1, e2]
      refine wa.callV 0 (z6 zd z7) ?_
      simp (disch := omega) only [go_sem, e1, e2]
      refine wb.callV 0 (z6 zd z7) ?_
      simp (disch := omega) only [go_sem, e1, e2]
      exact Fin.val rfl
    · have e2 : (y == []) = false := beq_eq_false_iff_ne.2 h2
      rw [if_neg (by simp [h1, h2])]
      simp (disch := omega) only [go_sem, e1, e2]
      refine wa.callV 0 (z6 zd z7) ?_
      simp (disch := omega) only [go_sem, e1, e2]
      refine wb.callV 0 (z6 zd z7) ?_
      simp (disch := omega) only [go_sem, e1, e2]
      refine ws.callV 0 (z6 zd (z6 zd z7)) ?_
      simp (disch := omega) only [go_sem, e1, e2]
      exact Fin.val rfl
set_option maxHeartbeats 4000000 in
theorem Tryz.implTS_ok (a b : List UInt8) (ha : a.length ≤ 1048576) (hb : b.length ≤ 1048576) : PCall Tryz.prog 94 [str a, str b] (.val (.int .i64 (tsc a b))) := by
  refine FCall.pcall (R := fun r _ => r = .val (.int .i64 (tsc a b))) ?_ 0 (by rintro r H rfl; exact z8)
  have wa := Tryz.implNrm_ok a ha
  have wb := Tryz.implNrm_ok b hb
  have hla := nrm_length a
  have hlb := nrm_length b
  rw [tsc]
  generalize nrm a = x at *
  generalize nrm b = y at *
  have ws := Tryz.implES_ok x y (by omega) (by omega)
  refine FCall.of_body Tryz.func94 rfl (by kernel_rfl) (by simp [Tryz.ntmps94]) ?_
  refine SW_of_vc Tryz.mixed _ _ _ (by kernel_rfl) ?_
  by_cases h1 : x = []
  · have e1 : (x == []) = true := by rw [h1]; rfl
    rw [if_pos (.inl h1)]
    simp (disch := omega) only [go_sem, e1]
    refine wa.callV 0 (z6 zd z7) ?_
    simp (disch := omega) only [go_sem, e1]
    refine wb.callV 0 (z6 zd z7) ?_
    simp (disch := omega) only [go_sem, e1]
    exact Fin.val rfl
  · have e1 : (x == []) = false := beq_eq_false_iff_ne.2 h1
    by_cases h2 : y = []
    · have e2 : (y == []) = true := by rw [h2]; rfl
      rw [if_pos (.inr h2)]
      simp (disch := omega) only [go_sem, e1, e2]
      refine wa.callV 0 (z6 zd z7) ?_
      simp (disch := omega) only [go_sem, e1, e2]
      refine wb.callV 0 (z6 zd z7) ?_
      simp (disch := omega) only [go_sem, e1, e2]
      exact Fin.val rfl
    · have e2 : (y == []) = false := beq_eq_false_iff_ne.2 h2
      rw [if_neg (by simp [h1, h2])]
      simp (disch := omega) only [go_sem, e1, e2]
      refine wa.callV 0 (z6 zd z7) ?_
      simp (disch := omega) only [go_sem, e1, e2]
      refine wb.callV 0 (z6 zd z7) ?_
      simp (disch := omega) only [go_sem, e1, e2]
      refine ws.callV 0 (z6 zd (z6 zd z7)) ?_
      simp (disch := omega) only [go_sem, e1, e2]
      exact Fin.val rfl
end Go.Sh

/-
  The features of two records: contracts.
-/
namespace Go.Sh
open Go Go.Proofs

set_option maxHeartbeats 4000000 in
theorem Tryz.implYS_ok (a b : List UInt8) (ha : a.length ≤ 1048576) (hb : b.length ≤ 1048576) : PCall Tryz.prog 98 [str a, str b] (.val (.int .i64 (ysc a b))) := by
  refine FCall.pcall (R := fun r _ => r = .val (.int .i64 (ysc a b))) ?_ 0 (by rintro r H rfl; exact z8)
  have w1 := Tryz.implYr_ok a ha
  have w2 := Tryz.implYr_ok b hb
  have p1 := yr_b a
  have p2 := yr_b b
  rw [ysc]
  generalize yr a = x at *
  generalize yr b = y at *
  have ws := Tryz.implNS_ok x y (by omega) (by omega)
  refine FCall.of_body Tryz.func98 rfl (by kernel_rfl) (by simp [Tryz.ntmps98]) ?_
  refine SW_of_vc Tryz.mixed _ _ _ (by kernel_rfl) ?_
  by_cases h1 : x = 0
  · have e1 : (x == 0) = true := by rw [h1]; rfl
    rw [if_pos (.inl h1)]
    simp (disch := omega) only [go_sem, e1]
    refine w1.callV 0 (z6 zd z7) ?_
    simp (disch := omega) only [go_sem, e1]
    refine w2.callV 0 (z6 zd z7) ?_
    simp (disch := omega) only [go_sem, e1]
    exact Fin.val rfl
  · have e1 : (x == 0) = false := beq_eq_false_iff_ne.2 h1
    by_cases h2 : y = 0
    · have e2 : (y == 0) = true := by rw [h2]; rfl
      rw [if_pos (.inr h2)]
      simp (disch := omega) only [go_sem, e1, e2]
      refine w1.callV 0 (z6 zd z7) ?_
      simp (disch := omega) only [go_sem, e1, e2]
      refine w2.callV 0 (z6 zd z7) ?_
      simp (disch := omega) only [go_sem, e1, e2]
      exact Fin.val rfl
    · have e2 : (y == 0) = false := beq_eq_false_iff_ne.2 h2
      rw [if_neg (by simp [h1, h2])]
      simp (disch := omega) only [go_sem, e1, e2]
      refine w1.callV 0 (z6 zd z7) ?_
      simp (disch := omega) only [go_sem, e1, e2]
      refine w2.callV 0 (z6 zd z7) ?_
      simp (disch := omega) only [go_sem, e1, e2]
      refine ws.callV 0 (z6 (z8) (z6 (z8) (z6 (z8) z7))) ?_
      simp (disch := omega) only [go_sem, e1, e2]
      exact Fin.val rfl
theorem vRec_f {a b c : Int} {F : List Wd} (h : vRec (a, b, c, F) = true) : F.length = 4 ∧ ∀ k, k < 4 → (F.getD k []).length ≤ 40 := by
  simp only [vRec, Bool.and_eq_true, decide_eq_true_eq] at h
  obtain ⟨h1, _, _, _, h4⟩ := h
  refine ⟨h4, fun k hk => ?_⟩
  have h5 := (all_getD (p := isFd) []).1 h1 k (by omega)
  rw [isFd, isTx, Bool.and_eq_true, Bool.and_eq_true, decide_eq_true_eq] at h5
  exact h5.1.2
theorem pf_ints (F G : List Wd) : ints (pf F G) = [.val (.int .i64 (tsc (F.getD 0 []) (G.getD 0 []))), .val (.int .i64 (sts (tks (F.getD 0 [])) (tks (G.getD 0 [])))), .val (.int .i64 (sts (sks (F.getD 0 [])) (sks (G.getD 0 [])))), .val (.int .i64 (tsc (F.getD 1 []) (G.getD 1 []))), .val (.int .i64 (ysc (F.getD 2 []) (G.getD 2 []))), .val (.int .i64 (phs (F.getD 3 []) (G.getD 3 [])))] := rfl
set_option maxRecDepth 20000 in
set_option maxHeartbeats 8000000 in
theorem Tryz.feat_ok (a b c : Int) (F : List Wd) (a' b' c' : Int) (G : List Wd) (hF : F.length = 4 ∧ ∀ k, k < 4 → (F.getD k []).length ≤ 40) (hG : G.length = 4 ∧ ∀ k, k < 4 → (G.getD k []).length ≤ 40) :
    PCall Tryz.prog 52 [sRec a b c F, sRec a' b' c' G] (ri (pf F G)) := by
  obtain ⟨lF, sF⟩ := hF
  obtain ⟨lG, sG⟩ := hG
  have f0 := sF 0 (by omega)
  have f1 := sF 1 (by omega)
  have f2 := sF 2 (by omega)
  have f3 := sF 3 (by omega)
  have g0 := sG 0 (by omega)
  have g1 := sG 1 (by omega)
  have g2 := sG 2 (by omega)
  have g3 := sG 3 (by omega)
  have cF := zj F
  have cG := zj G
  have pF0 := zn (L := F) (k := 0) (by omega)
  have pF1 := zn (L := F) (k := 1) (by omega)
  have pF2 := zn (L := F) (k := 2) (by omega)
  have pF3 := zn (L := F) (k := 3) (by omega)
  have pG0 := zn (L := G) (k := 0) (by omega)
  have pG1 := zn (L := G) (k := 1) (by omega)
  have pG2 := zn (L := G) (k := 2) (by omega)
  have pG3 := zn (L := G) (k := 3) (by omega)
  have hpi := pf_ints F G
  generalize hL : pf F G = L at *
  have hLl : L.length = 6 := by rw [← hL]; rfl
  generalize F.getD 0 [] = x0 at *
  generalize F.getD 1 [] = x1 at *
  generalize F.getD 2 [] = x2 at *
  generalize F.getD 3 [] = x3 at *
  generalize G.getD 0 [] = y0 at *
  generalize G.getD 1 [] = y1 at *
  generalize G.getD 2 [] = y2 at *
  generalize G.getD 3 [] = y3 at *
  have w1 := Tryz.implTS_ok x0 y0 (by omega) (by omega)
  have w2 := Tryz.implTok_ok x0 (by omega)
  have w3 := Tryz.implTok_ok y0 (by omega)
  have t1 := tks_len x0
  have t2 := tks_len y0
  have t3 := sks_len x0
  have t4 := sks_len y0
  have w4 := Tryz.implSts_ok (tks x0) (tks y0) (tks_sl (by omega)) (tks_sl (by omega)) (tks_ts _) (tks_ts _) (by omega) (by omega)
  have w5 := Tryz.implSK_ok x0 (by omega)
  have w6 := Tryz.implSK_ok y0 (by omega)
  have w7 := Tryz.implSts_ok (sks x0) (sks y0) (sks_sl (by omega)) (sks_sl (by omega)) (sks_ts _) (sks_ts _) (by omega) (by omega)
  have w8 := Tryz.implTS_ok x1 y1 (by omega) (by omega)
  have w9 := Tryz.implYS_ok x2 y2 (by omega) (by omega)
  have w10 := Tryz.implPh_ok x3 y3 (by omega) (by omega)
  refine FCall.pcall (R := FlatRes 6 1 (ints L)) ?_ 2 (fun _ _ h => flat_view h)
  refine FCall.of_body Tryz.func52 rfl (by kernel_rfl) (by simp [Tryz.ntmps52]) ?_
  refine SW_of_vc Tryz.mixed _ _ _ (by kernel_rfl) ?_
  simp (disch := omega) only [go_sem, rst, pF0, pF1, pF2, pF3, pG0, pG1, pG2, pG3, cF, cG, lF, lG]
  refine w1.callDV 0 (z6 zd (z6 zd z7)) ?_
  simp (disch := omega) only [go_sem, rst, pF0, pF1, pF2, pF3, pG0, pG1, pG2, pG3, cF, cG, lF, lG]
  refine w2.callDV 0 (z6 zd z7) ?_
  simp (disch := omega) only [go_sem, rst, pF0, pF1, pF2, pF3, pG0, pG1, pG2, pG3, cF, cG, lF, lG]
  refine w3.callDV 0 (z6 zd z7) ?_
  simp (disch := omega) only [go_sem, rst, pF0, pF1, pF2, pF3, pG0, pG1, pG2, pG3, cF, cG, lF, lG]
  refine w4.callDV 0 (z6 zf (z6 zf z7)) ?_
  simp (disch := omega) only [go_sem, rst, pF0, pF1, pF2, pF3, pG0, pG1, pG2, pG3, cF, cG, lF, lG]
  refine w5.callDV 0 (z6 zd z7) ?_
  simp (disch := omega) only [go_sem, rst, pF0, pF1, pF2, pF3, pG0, pG1, pG2, pG3, cF, cG, lF, lG]
  refine w6.callDV 0 (z6 zd z7) ?_
  simp (disch := omega) only [go_sem, rst, pF0, pF1, pF2, pF3, pG0, pG1, pG2, pG3, cF, cG, lF, lG]
  refine w7.callDV 0 (z6 zf (z6 zf z7)) ?_
  simp (disch := omega) only [go_sem, rst, pF0, pF1, pF2, pF3, pG0, pG1, pG2, pG3, cF, cG, lF, lG]
  refine w8.callDV 0 (z6 zd (z6 zd z7)) ?_
  simp (disch := omega) only [go_sem, rst, pF0, pF1, pF2, pF3, pG0, pG1, pG2, pG3, cF, cG, lF, lG]
  refine w9.callDV 0 (z6 zd (z6 zd z7)) ?_
  simp (disch := omega) only [go_sem, rst, pF0, pF1, pF2, pF3, pG0, pG1, pG2, pG3, cF, cG, lF, lG]
  refine w10.callDV 0 (z6 zd (z6 zd z7)) ?_
  simp (disch := omega) only [go_sem, rst, pF0, pF1, pF2, pF3, pG0, pG1, pG2, pG3, cF, cG, lF, lG]
  exact fin_ints (e2 := false) hLl.symm (by rw [hpi]; exact (by first | rfl | (simp (disch := omega) only [hx_map, hp_map, zl, zm, zk, xmap_nil, if_pos, if_neg, ↓reduceIte]; try rfl)))
set_option maxRecDepth 20000 in
set_option maxHeartbeats 8000000 in
theorem Tryz.specPF_ok (a b c : Int) (F : List Wd) (a' b' c' : Int) (G : List Wd) (hF0 : LF F) (hG0 : LF G) (vF : vRec (a, b, c, F) = true) (vG : vRec (a', b', c', G) = true) :
    PCall Tryz.prog 26 [sRec a b c F, sRec a' b' c' G] (ri (pf F G)) := by
  have v1 := Tryz.specVRec_ok a b c F hF0
  have v2 := Tryz.specVRec_ok a' b' c' G hG0
  rw [vF] at v1
  rw [vG] at v2
  obtain ⟨lF, sF⟩ := vRec_f vF
  obtain ⟨lG, sG⟩ := vRec_f vG
  simp only [sRec, lF] at v1
  simp only [sRec, lG] at v2
  have f0 := sF 0 (by omega)
  have f1 := sF 1 (by omega)
  have f2 := sF 2 (by omega)
  have f3 := sF 3 (by omega)
  have g0 := sG 0 (by omega)
  have g1 := sG 1 (by omega)
  have g2 := sG 2 (by omega)
  have g3 := sG 3 (by omega)
  have cF := zj F
  have cG := zj G
  have pF0 := zn (L := F) (k := 0) (by omega)
  have pF1 := zn (L := F) (k := 1) (by omega)
  have pF2 := zn (L := F) (k := 2) (by omega)
  have pF3 := zn (L := F) (k := 3) (by omega)
  have pG0 := zn (L := G) (k := 0) (by omega)
  have pG1 := zn (L := G) (k := 1) (by omega)
  have pG2 := zn (L := G) (k := 2) (by omega)
  have pG3 := zn (L := G) (k := 3) (by omega)
  have hpi := pf_ints F G
  generalize hL : pf F G = L at *
  have hLl : L.length = 6 := by rw [← hL]; rfl
  generalize F.getD 0 [] = x0 at *
  generalize F.getD 1 [] = x1 at *
  generalize F.getD 2 [] = x2 at *
  generalize F.getD 3 [] = x3 at *
  generalize G.getD 0 [] = y0 at *
  generalize G.getD 1 [] = y1 at *
  generalize G.getD 2 [] = y2 at *
  generalize G.getD 3 [] = y3 at *
  have w1 := Tryz.specTS_ok x0 y0 (by omega) (by omega)
  have w2 := Tryz.specTok_ok x0 (by omega)
  have w3 := Tryz.specTok_ok y0 (by omega)
  have t1 := tks_len x0
  have t2 := tks_len y0
  have t3 := sks_len x0
  have t4 := sks_len y0
  have w4 := Tryz.specSts_ok (tks x0) (tks y0) (tks_sl (by omega)) (tks_sl (by omega)) (tks_ts _) (tks_ts _) (by omega) (by omega)
  have w5 := Tryz.specSK_ok x0 (by omega)
  have w6 := Tryz.specSK_ok y0 (by omega)
  have w7 := Tryz.specSts_ok (sks x0) (sks y0) (sks_sl (by omega)) (sks_sl (by omega)) (sks_ts _) (sks_ts _) (by omega) (by omega)
  have w8 := Tryz.specTS_ok x1 y1 (by omega) (by omega)
  have y1' := Tryz.specYr_ok x2 (by omega)
  have y2' := Tryz.specYr_ok y2 (by omega)
  have q1 := yr_b x2
  have q2 := yr_b y2
  rw [ysc] at hpi
  generalize yr x2 = p at *
  generalize yr y2 = q at *
  have w9 := Tryz.specNS_ok p q (by omega) (by omega)
  have w10 := Tryz.specPh_ok x3 y3 (by omega) (by omega)
  refine FCall.pcall (R := FlatRes 6 1 (ints L)) ?_ 2 (fun _ _ h => flat_view h)
  refine FCall.of_body Tryz.func26 rfl (by kernel_rfl) (by simp [Tryz.ntmps26]) ?_
  refine SW_of_vc Tryz.mixed _ _ _ (by kernel_rfl) ?_
  by_cases h1 : p = 0
  · have c1 : ¬ 0 < p := by omega
    rw [if_pos (.inl h1)] at hpi
    simp (disch := omega) only [go_sem, rst, pF0, pF1, pF2, pF3, pG0, pG1, pG2, pG3, cF, cG, lF, lG]
    refine v1.callV 1 (z6 view_rec z7) ?_
    simp (disch := omega) only [go_sem, rst, pF0, pF1, pF2, pF3, pG0, pG1, pG2, pG3, cF, cG, lF, lG]
    refine v2.callV 1 (z6 view_rec z7) ?_
    simp (disch := omega) only [go_sem, rst, pF0, pF1, pF2, pF3, pG0, pG1, pG2, pG3, cF, cG, lF, lG]
    refine w1.callDV 0 (z6 zd (z6 zd z7)) ?_
    simp (disch := omega) only [go_sem, rst, pF0, pF1, pF2, pF3, pG0, pG1, pG2, pG3, cF, cG, lF, lG]
    refine w2.callDV 0 (z6 zd z7) ?_
    simp (disch := omega) only [go_sem, rst, pF0, pF1, pF2, pF3, pG0, pG1, pG2, pG3, cF, cG, lF, lG]
    refine w3.callDV 0 (z6 zd z7) ?_
    simp (disch := omega) only [go_sem, rst, pF0, pF1, pF2, pF3, pG0, pG1, pG2, pG3, cF, cG, lF, lG]
    refine w4.callDV 0 (z6 zf (z6 zf z7)) ?_
    simp (disch := omega) only [go_sem, rst, pF0, pF1, pF2, pF3, pG0, pG1, pG2, pG3, cF, cG, lF, lG]
    refine w5.callDV 0 (z6 zd z7) ?_
    simp (disch := omega) only [go_sem, rst, pF0, pF1, pF2, pF3, pG0, pG1, pG2, pG3, cF, cG, lF, lG]
    refine w6.callDV 0 (z6 zd z7) ?_
    simp (disch := omega) only [go_sem, rst, pF0, pF1, pF2, pF3, pG0, pG1, pG2, pG3, cF, cG, lF, lG]
    refine w7.callDV 0 (z6 zf (z6 zf z7)) ?_
    simp (disch := omega) only [go_sem, rst, pF0, pF1, pF2, pF3, pG0, pG1, pG2, pG3, cF, cG, lF, lG]
    refine w8.callDV 0 (z6 zd (z6 zd z7)) ?_
    simp (disch := omega) only [go_sem, rst, pF0, pF1, pF2, pF3, pG0, pG1, pG2, pG3, cF, cG, lF, lG]
    refine w10.callDV 0 (z6 zd (z6 zd z7)) ?_
    simp (disch := omega) only [go_sem, rst, pF0, pF1, pF2, pF3, pG0, pG1, pG2, pG3, cF, cG, lF, lG]
    refine y1'.callV 0 (z6 zd z7) ?_
    simp (disch := omega) only [go_sem, rst, pF0, pF1, pF2, pF3, pG0, pG1, pG2, pG3, cF, cG, lF, lG]
    refine y2'.callV 0 (z6 zd z7) ?_
    simp (disch := omega) only [go_sem, rst, pF0, pF1, pF2, pF3, pG0, pG1, pG2, pG3, cF, cG, lF, lG]
    exact fin_ints (e2 := false) hLl.symm (by rw [hpi]; exact (by first | rfl | (simp (disch := omega) only [hx_map, hp_map, zl, zm, zk, xmap_nil, if_pos, if_neg, ↓reduceIte]; try rfl)))
  · have c1 : 0 < p := by omega
    by_cases h2 : q = 0
    · have c2 : ¬ 0 < q := by omega
      rw [if_pos (.inr h2)] at hpi
      simp (disch := omega) only [go_sem, rst, pF0, pF1, pF2, pF3, pG0, pG1, pG2, pG3, cF, cG, lF, lG]
      refine v1.callV 1 (z6 view_rec z7) ?_
      simp (disch := omega) only [go_sem, rst, pF0, pF1, pF2, pF3, pG0, pG1, pG2, pG3, cF, cG, lF, lG]
      refine v2.callV 1 (z6 view_rec z7) ?_
      simp (disch := omega) only [go_sem, rst, pF0, pF1, pF2, pF3, pG0, pG1, pG2, pG3, cF, cG, lF, lG]
      refine w1.callDV 0 (z6 zd (z6 zd z7)) ?_
      simp (disch := omega) only [go_sem, rst, pF0, pF1, pF2, pF3, pG0, pG1, pG2, pG3, cF, cG, lF, lG]
      refine w2.callDV 0 (z6 zd z7) ?_
      simp (disch := omega) only [go_sem, rst, pF0, pF1, pF2, pF3, pG0, pG1, pG2, pG3, cF, cG, lF, lG]
      refine w3.callDV 0 (z6 zd z7) ?_
      simp (disch := omega) only [go_sem, rst, pF0, pF1, pF2, pF3, pG0, pG1, pG2, pG3, cF, cG, lF, lG]
      refine w4.callDV 0 (z6 zf (z6 zf z7)) ?_
      simp (disch := omega) only [go_sem, rst, pF0, pF1, pF2, pF3, pG0, pG1, pG2, pG3, cF, cG, lF, lG]
      refine w5.callDV 0 (z6 zd z7) ?_
      simp (disch := omega) only [go_sem, rst, pF0, pF1, pF2, pF3, pG0, pG1, pG2, pG3, cF, cG, lF, lG]
      refine w6.callDV 0 (z6 zd z7) ?_
      simp (disch := omega) only [go_sem, rst, pF0, pF1, pF2, pF3, pG0, pG1, pG2, pG3, cF, cG, lF, lG]
      refine w7.callDV 0 (z6 zf (z6 zf z7)) ?_
      simp (disch := omega) only [go_sem, rst, pF0, pF1, pF2, pF3, pG0, pG1, pG2, pG3, cF, cG, lF, lG]
      refine w8.callDV 0 (z6 zd (z6 zd z7)) ?_
      simp (disch := omega) only [go_sem, rst, pF0, pF1, pF2, pF3, pG0, pG1, pG2, pG3, cF, cG, lF, lG]
      refine w10.callDV 0 (z6 zd (z6 zd z7)) ?_
      simp (disch := omega) only [go_sem, rst, pF0, pF1, pF2, pF3, pG0, pG1, pG2, pG3, cF, cG, lF, lG]
      refine y1'.callV 0 (z6 zd z7) ?_
      simp (disch := omega) only [go_sem, rst, pF0, pF1, pF2, pF3, pG0, pG1, pG2, pG3, cF, cG, lF, lG]
      refine y2'.callV 0 (z6 zd z7) ?_
      simp (disch := omega) only [go_sem, rst, pF0, pF1, pF2, pF3, pG0, pG1, pG2, pG3, cF, cG, lF, lG]
      exact fin_ints (e2 := false) hLl.symm (by rw [hpi]; exact (by first | rfl | (simp (disch := omega) only [hx_map, hp_map, zl, zm, zk, xmap_nil, if_pos, if_neg, ↓reduceIte]; try rfl)))
    · have c2 : 0 < q := by omega
      rw [if_neg (by omega)] at hpi
      simp (disch := omega) only [go_sem, rst, pF0, pF1, pF2, pF3, pG0, pG1, pG2, pG3, cF, cG, lF, lG]
      refine v1.callV 1 (z6 view_rec z7) ?_
      simp (disch := omega) only [go_sem, rst, pF0, pF1, pF2, pF3, pG0, pG1, pG2, pG3, cF, cG, lF, lG]
      refine v2.callV 1 (z6 view_rec z7) ?_
      simp (disch := omega) only [go_sem, rst, pF0, pF1, pF2, pF3, pG0, pG1, pG2, pG3, cF, cG, lF, lG]
      refine w1.callDV 0 (z6 zd (z6 zd z7)) ?_
      simp (disch := omega) only [go_sem, rst, pF0, pF1, pF2, pF3, pG0, pG1, pG2, pG3, cF, cG, lF, lG]
      refine w2.callDV 0 (z6 zd z7) ?_
      simp (disch := omega) only [go_sem, rst, pF0, pF1, pF2, pF3, pG0, pG1, pG2, pG3, cF, cG, lF, lG]
      refine w3.callDV 0 (z6 zd z7) ?_
      simp (disch := omega) only [go_sem, rst, pF0, pF1, pF2, pF3, pG0, pG1, pG2, pG3, cF, cG, lF, lG]
      refine w4.callDV 0 (z6 zf (z6 zf z7)) ?_
      simp (disch := omega) only [go_sem, rst, pF0, pF1, pF2, pF3, pG0, pG1, pG2, pG3, cF, cG, lF, lG]
      refine w5.callDV 0 (z6 zd z7) ?_
      simp (disch := omega) only [go_sem, rst, pF0, pF1, pF2, pF3, pG0, pG1, pG2, pG3, cF, cG, lF, lG]
      refine w6.callDV 0 (z6 zd z7) ?_
      simp (disch := omega) only [go_sem, rst, pF0, pF1, pF2, pF3, pG0, pG1, pG2, pG3, cF, cG, lF, lG]
      refine w7.callDV 0 (z6 zf (z6 zf z7)) ?_
      simp (disch := omega) only [go_sem, rst, pF0, pF1, pF2, pF3, pG0, pG1, pG2, pG3, cF, cG, lF, lG]
      refine w8.callDV 0 (z6 zd (z6 zd z7)) ?_
      simp (disch := omega) only [go_sem, rst, pF0, pF1, pF2, pF3, pG0, pG1, pG2, pG3, cF, cG, lF, lG]
      refine w10.callDV 0 (z6 zd (z6 zd z7)) ?_
      simp (disch := omega) only [go_sem, rst, pF0, pF1, pF2, pF3, pG0, pG1, pG2, pG3, cF, cG, lF, lG]
      refine y1'.callV 0 (z6 zd z7) ?_
      simp (disch := omega) only [go_sem, rst, pF0, pF1, pF2, pF3, pG0, pG1, pG2, pG3, cF, cG, lF, lG]
      refine y2'.callV 0 (z6 zd z7) ?_
      simp (disch := omega) only [go_sem, rst, pF0, pF1, pF2, pF3, pG0, pG1, pG2, pG3, cF, cG, lF, lG]
      refine w9.callV 0 (z6 (z8) (z6 (z8) (z6 (z8) z7))) ?_
      simp (disch := omega) only [go_sem, rst, pF0, pF1, pF2, pF3, pG0, pG1, pG2, pG3, cF, cG, lF, lG]
      exact fin_ints (e2 := false) hLl.symm (by rw [hpi]; exact (by first | rfl | (simp (disch := omega) only [hx_map, hp_map, zl, zm, zk, xmap_nil, if_pos, if_neg, ↓reduceIte]; try rfl)))
end Go.Sh

/-
  BuildWeights: contracts.
-/
namespace Go.Sh
open Go Go.Proofs

def fl (R : List Rec) (k : Nat) : List Wd := (gR R k).2.2.2
noncomputable def bw (R : List Rec) (Q : List (List Con)) (W : List Int) (b : Int) (i k : Nat) : Int := if i = k then 0 else pwt Q W b (pf (fl R i) (fl R k))
theorem bw_eq {R : List Rec} {Q : List (List Con)} {W : List Int} {b : Int} {i : Nat} : bw R Q W b i i = 0 := if_pos rfl
theorem bw_ne {R : List Rec} {Q : List (List Con)} {W : List Int} {b : Int} {i k : Nat} (h : i ≠ k) : bw R Q W b i k = pwt Q W b (pf (fl R i) (fl R k)) := if_neg h
theorem bw_symm (R : List Rec) (Q : List (List Con)) (W : List Int) (b : Int) (i k : Nat) : bw R Q W b i k = bw R Q W b k i := by
  by_cases h : i = k
  · rw [h]
  · rw [bw_ne h, bw_ne (Ne.symm h), pf_symm]
noncomputable def bwM (R : List Rec) (Q : List (List Con)) (W : List Int) (b : Int) : List (List Int) := genM R.length (bw R Q W b)
def okBW (R : List Rec) (Q : List (List Con)) (W : List Int) (b : Int) : Bool := vAll R && (inR R.length 1 8 && (isVR Q && isSc W b))
noncomputable def bwR (R : List Rec) (Q : List (List Con)) (W : List Int) (b : Int) : List (List Int) := if okBW R Q W b = true then bwM R Q W b else []
theorem bwR_t {R : List Rec} {Q : List (List Con)} {W : List Int} {b : Int} (h : okBW R Q W b = true) : bwR R Q W b = bwM R Q W b := if_pos h
theorem bwR_f {R : List Rec} {Q : List (List Con)} {W : List Int} {b : Int} (h : okBW R Q W b = false) : bwR R Q W b = [] := if_neg (by simp [h])
noncomputable def bwr (R : List Rec) (Q : List (List Con)) (W : List Int) (b : Int) (i k : Nat) : List Int := (List.range k).map (bw R Q W b i)
theorem bwr_len {R : List Rec} {Q : List (List Con)} {W : List Int} {b : Int} {i k : Nat} : (bwr R Q W b i k).length = k := by simp [bwr]
theorem bwr_succ {R : List Rec} {Q : List (List Con)} {W : List Int} {b : Int} {i k : Nat} : ints (bwr R Q W b i k) ++ [.val (.int .i64 (bw R Q W b i k))] = ints (bwr R Q W b i (k + 1)) := by simp [bwr, ints, List.range_succ]
noncomputable def bwm (R : List Rec) (Q : List (List Con)) (W : List Int) (b : Int) (i : Nat) : List (List Int) := (List.range i).map fun x => bwr R Q W b x R.length
theorem bwm_len {R : List Rec} {Q : List (List Con)} {W : List Int} {b : Int} {i : Nat} : (bwm R Q W b i).length = i := by simp [bwm]
theorem bwm_succ {R : List Rec} {Q : List (List Con)} {W : List Int} {b : Int} {i : Nat} : bwm R Q W b (i + 1) = bwm R Q W b i ++ [bwr R Q W b i R.length] := by simp [bwm, List.range_succ]
theorem bwm_all {R : List Rec} {Q : List (List Con)} {W : List Int} {b : Int} : bwm R Q W b R.length = bwM R Q W b := rfl
theorem vAll_at {R : List Rec} (h : vAll R = true) {k : Nat} (hk : k < R.length) : vRec (gR R k) = true := (all_getD dr).1 h k hk
theorem fin_rr0 {H : Heap} {b cap : Nat} {ex e2 : Bool} (hb : H.map b = some ⟨[], e2⟩) : Fin (fun r H => view H 3 r = some (rr [])) (.own b 0 0 cap 1 ex) H := by
  refine Fin.own (blk := ⟨[], e2⟩) hb rfl ?_
  exact view_own (f := 2) (L := []) (e2 := e2) (by simp [hb, ints]) rfl
open Classical in
theorem fin_matR {H : Heap} {lo ob cap : Nat} {e : Bool} {cs : List SV} {nm : Nat → Nat} {M : List (List Int)} (h : MatH H lo ob cs nm M) : Fin (fun r H => Sh.view H 3 r = some (rr M)) (.own ob 0 M.length cap 1 e) H := by
  let p : Nat → Prop := fun b => b = ob ∨ (∃ i, i < M.length ∧ b = nm i)
  have h2 : MatH (part H p) lo ob cs nm M := h.part p (.inl rfl) (fun i hi => .inr ⟨i, hi, rfl⟩)
  refine ⟨part H p, part_sub H p, rfl, fun b blk hb => ?_, h2.viewH (f := 1)⟩
  have hb' : (if p b then H.map b else none) = some blk := hb
  split at hb'
  · rename_i hp
    rcases hp with rfl | ⟨i, hi, rfl⟩
    · rw [h.o] at hb'; simp at hb'; subst hb'
      exact h.nr
    · obtain ⟨e, e2, k1, k2⟩ := h.row i hi
      rw [k2] at hb'; simp at hb'; subst hb'; exact noRowL_ints _
  · simp at hb'
set_option maxRecDepth 20000 in
set_option maxHeartbeats 16000000 in
theorem Tryz.specBW_ok (R : List Rec) (Q : List (List Con)) (W : List Int) (b : Int) (hR : LR R) (hQ : Q.length ≤ 1048576) (hT : ∀ i, i < Q.length → (rg Q i).length ≤ 1048576) (hW : W.length ≤ 1048576) :
    PCall Tryz.prog 8 [rREC R, .agg [rR Q], sS W b] (rr (bwR R Q W b)) := by
  refine FCall.pcall (R := fun r H => Sh.view H 3 r = some (rr (bwR R Q W b))) ?_ 3 (fun _ _ h => h)
  have w0 := Tryz.l13Good_ok R hR
  have w1 := Tryz.l1In_ok (R.length : Int) 1 8
  have w2 := Tryz.specVR_ok Q hQ hT
  have w3 := Tryz.specSc_ok W b hW
  have hRl := hR.1
  have lC := recs_length R
  refine FCall.of_body Tryz.func8 rfl (by kernel_rfl) (by simp [Tryz.ntmps8]) ?_
  refine SW_of_vc Tryz.mixed _ _ _ (by kernel_rfl) ?_
  cases hg : (vAll R && decide (R.length ≤ 12)) with
  | false =>
    rw [hg] at w0
    have hv : okBW R Q W b = false := by
      cases h : okBW R Q W b with
      | false => rfl
      | true =>
        rw [okBW, Bool.and_eq_true, Bool.and_eq_true] at h
        have := inR_of h.2.1
        rw [h.1, Bool.true_and, decide_eq_false_iff_not] at hg
        omega
    rw [bwR_f hv]
    simp (disch := omega) only [go_sem, rREC, rR]
    refine w0.callV 0 (z6 zf z7) ?_
    simp (disch := omega) only [go_sem, rREC, rR]
    exact fin_rr0 (e2 := false) (by first | rfl | (simp (disch := omega) only [hx_map, hp_map, zl, zm, zk, xmap_nil, if_pos, if_neg, ↓reduceIte]; try rfl))
  | true =>
  rw [hg] at w0
  have hva := (Bool.and_eq_true_iff.1 hg).1
  cases h2 : inR R.length 1 8 with
  | false =>
    rw [h2] at w1
    have hv : okBW R Q W b = false := by rw [okBW, h2, Bool.false_and, Bool.and_false]
    rw [bwR_f hv]
    simp (disch := omega) only [go_sem, rREC, rR]
    refine w0.callV 0 (z6 zf z7) ?_
    simp (disch := omega) only [go_sem, rREC, rR]
    refine w1.callV 0 (z6 (z8) (z6 (z8) (z6 (z8) z7))) ?_
    simp (disch := omega) only [go_sem, rREC, rR]
    exact fin_rr0 (e2 := false) (by first | rfl | (simp (disch := omega) only [hx_map, hp_map, zl, zm, zk, xmap_nil, if_pos, if_neg, ↓reduceIte]; try rfl))
  | true =>
  rw [h2] at w1
  cases h3 : isVR Q with
  | false =>
    rw [h3] at w2
    have hv : okBW R Q W b = false := by rw [okBW, h3, Bool.false_and, Bool.and_false, Bool.and_false]
    rw [bwR_f hv]
    simp (disch := omega) only [go_sem, rREC, rR]
    refine w0.callV 0 (z6 zf z7) ?_
    simp (disch := omega) only [go_sem, rREC, rR]
    refine w1.callV 0 (z6 (z8) (z6 (z8) (z6 (z8) z7))) ?_
    simp (disch := omega) only [go_sem, rREC, rR]
    refine w2.callV 1 (z6 zi z7) ?_
    simp (disch := omega) only [go_sem, rREC, rR]
    exact fin_rr0 (e2 := false) (by first | rfl | (simp (disch := omega) only [hx_map, hp_map, zl, zm, zk, xmap_nil, if_pos, if_neg, ↓reduceIte]; try rfl))
  | true =>
  rw [h3] at w2
  cases h4 : isSc W b with
  | false =>
    rw [h4] at w3
    have hv : okBW R Q W b = false := by rw [okBW, h4, Bool.and_false, Bool.and_false, Bool.and_false]
    rw [bwR_f hv]
    simp (disch := omega) only [go_sem, rREC, rR]
    refine w0.callV 0 (z6 zf z7) ?_
    simp (disch := omega) only [go_sem, rREC, rR]
    refine w1.callV 0 (z6 (z8) (z6 (z8) (z6 (z8) z7))) ?_
    simp (disch := omega) only [go_sem, rREC, rR]
    refine w2.callV 1 (z6 zi z7) ?_
    simp (disch := omega) only [go_sem, rREC, rR]
    refine w3.callV 1 (z6 view_sS z7) ?_
    simp (disch := omega) only [go_sem, rREC, rR]
    exact fin_rr0 (e2 := false) (by first | rfl | (simp (disch := omega) only [hx_map, hp_map, zl, zm, zk, xmap_nil, if_pos, if_neg, ↓reduceIte]; try rfl))
  | true =>
  rw [h4] at w3
  have hv : okBW R Q W b = true := by rw [okBW, hva, h2, h3, h4]; rfl
  have hn8 := inR_of h2
  rw [bwR_t hv, ← bwm_all]
  simp (disch := omega) only [go_sem, rREC, rR]
  refine w0.callV 0 (z6 zf z7) ?_
  simp (disch := omega) only [go_sem, rREC, rR]
  refine w1.callV 0 (z6 (z8) (z6 (z8) (z6 (z8) z7))) ?_
  simp (disch := omega) only [go_sem, rREC, rR]
  refine w2.callV 1 (z6 zi z7) ?_
  simp (disch := omega) only [go_sem, rREC, rR]
  refine w3.callV 1 (z6 view_sS z7) ?_
  simp (disch := omega) only [go_sem, rREC, rR]
  refine LoopW.loop (fun y : Nat × Nat × List SV × (Nat → Nat) × Heap => ⟨ofL [(0, rREC R), (4, .optr 0 0), (5, .optr 1 0), (7, .own y.2.1 0 y.1 y.1 1 false), (8, .val (.int .i64 y.1))], y.2.2.2.2⟩)
    (fun y => y.1 ≤ R.length ∧ MatH y.2.2.2.2 2 y.2.1 y.2.2.1 y.2.2.2.1 (bwm R Q W b y.1) ∧ y.2.2.2.2.map 0 = some ⟨[.row Q.length false (rules Q)], true⟩ ∧ y.2.2.2.2.map 1 = some ⟨[.row W.length false (ints W), .val (.int .i64 b)], true⟩ ∧ 2 ≤ y.2.2.2.2.nb) (fun y => R.length - y.1)
    (0, 2, [], fun _ => 0, hp [(2, ⟨[], false⟩), (1, ⟨[.row W.length false (ints W), .val (.int .i64 b)], true⟩), (0, ⟨[.row Q.length false (rules Q)], true⟩)] 3)
    ⟨by simp, ⟨by simp [bwm], rfl, fun i hi => absurd hi (by simp [bwm]), fun i j hi => absurd hi (by simp [bwm]), by simp [hp], fun i hi => absurd hi (by simp [bwm])⟩, rfl, rfl, by simp [hp]⟩ (Wk.of (by simp only [go_sem, ↓List.forall_mem_cons, List.not_mem_nil, false_implies, implies_true, and_true, true_and, and_self, ri_eq, Int.natCast_add, Int.cast_ofNat_Int, rREC]; try simp) rfl) ?_
  clear w0 w1 w2 w3
  rintro ⟨i, ob, cs, nm, H⟩ ⟨hi, hM, hm0, hm1, hnb⟩
  simp only at hi hM hm0 hm1 hnb
  have hcl : cs.length = i := by rw [hM.ln, bwm_len]
  have hlo := hM.lo1
  refine SW_of_vc Tryz.mixed _ _ _ (by kernel_rfl) ?_
  by_cases hlt : i < R.length
  · simp (disch := omega) only [go_sem, rREC, zb, za]
    refine LoopW.loop (fun y : Nat × Nat × Heap => ⟨ofL [(0, rREC R), (4, .optr 0 0), (5, .optr 1 0), (7, .own ob 0 i i 1 false), (8, .val (.int .i64 i)), (9, .own y.2.1 0 y.1 y.1 1 false), (10, .val (.int .i64 y.1))], y.2.2⟩)
      (fun y => y.1 ≤ R.length ∧ y.2.2.map y.2.1 = some ⟨ints (bwr R Q W b i y.1), false⟩ ∧ H.nb ≤ y.2.1 ∧ y.2.1 < y.2.2.nb ∧ ∀ x, x < H.nb → y.2.2.map x = H.map x) (fun y => R.length - y.1)
      (0, H.nb, H.push ⟨[], false⟩) ⟨by simp, by simp only [zb, ↓reduceIte]; rfl, Nat.le_refl _, by simp only [za]; omega, fun x hx => by simp only [zb]; rw [if_neg (by omega)]⟩ (Wk.of (by simp only [go_sem, ↓List.forall_mem_cons, List.not_mem_nil, false_implies, implies_true, and_true, true_and, and_self, ri_eq, Int.natCast_add, Int.cast_ofNat_Int, rREC]; try simp) rfl) ?_
    rintro ⟨k, rb, H1⟩ ⟨hk, hm, hrb, hrn, ho⟩
    simp only at hk hm hrb hrn ho
    have m0 : H1.map 0 = _ := (ho 0 (by omega)).trans hm0
    have m1 : H1.map 1 = _ := (ho 1 (by omega)).trans hm1
    have hPs : (ints (bwr R Q W b i k)).length = k := by rw [zh, bwr_len]
    have hPt : (ints (bwr R Q W b i k)).take k = ints (bwr R Q W b i k) := List.take_of_length_le (by omega)
    have hsn := bwr_succ (R := R) (Q := Q) (W := W) (b := b) (i := i) (k := k)
    refine SW_of_vc Tryz.mixed _ _ _ (by kernel_rfl) ?_
    by_cases hkl : k < R.length
    · rcases Nat.lt_trichotomy i k with hik | hik | hik
      · have e1 : ((i : Int) != (k : Int)) = true := by rw [bne_iff_ne]; omega
        have glp := recs_load (R := R) (k := i) (by omega)
        have glq := recs_load (R := R) (k := k) (by omega)
        have vp := vAll_at hva (k := i) (by omega)
        have vq := vAll_at hva (k := k) (by omega)
        have lp := hR.2 i (by omega)
        have lq := hR.2 k (by omega)
        have hfp : fl R i = (gR R i).2.2.2 := rfl
        have hfq : fl R k = (gR R k).2.2.2 := rfl
        obtain ⟨a1, a2, a3, F, hr1⟩ := rec_ex R i
        obtain ⟨b1, b2, b3, G, hr2⟩ := rec_ex R k
        rw [hr1] at glp vp lp hfp
        rw [hr2] at glq vq lq hfq
        simp only [rec4] at glp glq
        simp only at hfp hfq lp lq
        have wf := Tryz.specPF_ok a1 a2 a3 F b1 b2 b3 G lp lq vp vq
        have wp := Tryz.specPW_ok Q W b (pf F G) hQ hT hW (by show 6 ≤ 1048576; omega)
        rw [← hfp, ← hfq] at wf wp
        rw [← bw_ne (R := R) (Nat.ne_of_lt hik)] at wp
        rw [hfp, hfq] at wf wp
        generalize pf F G = fv at *
        simp (disch := omega) only [go_sem, rREC, rR, glp, glq, lC, m0, m1, e1, hm, hPs, hPt, hsn, ze, zc, zb, za]
        refine wf.callDV 1 (z6 view_rec (z6 view_rec z7)) ?_
        simp (disch := omega) only [go_sem, rREC, rR, glp, glq, lC, m0, m1, e1, hm, hPs, hPt, hsn, ze, zc, zb, za]
        refine wp.callDV 1 (z6 zi (z6 view_sS (z6 zf z7))) ?_
        simp (disch := omega) only [go_sem, rREC, rR, glp, glq, lC, m0, m1, e1, hm, hPs, hPt, hsn, ze, zc, zb, za]
        refine ⟨(k + 1, H1.nb + 1, _), ⟨hkl, ?_, by simp only; omega, by simp only [zc, za]; omega, fun x hx => ?_⟩, by simp only; omega, Wk.of (by simp only [go_sem, ↓List.forall_mem_cons, List.not_mem_nil, false_implies, implies_true, and_true, true_and, and_self, ri_eq, Int.natCast_add, Int.cast_ofNat_Int, rREC]; try simp) rfl⟩
        · simp (disch := omega) only [ze, zb, zc, za, if_pos, if_neg, ↓reduceIte]
        · simp (disch := omega) only [ze, zb, zc, za, if_pos, if_neg, ↓reduceIte]
          exact ho x hx
      · subst hik
        have e1 : ((i : Int) != (i : Int)) = false := bne_self_eq_false _
        rw [bw_eq] at hsn
        simp (disch := omega) only [go_sem, rREC, rR, e1, hm, hPs, hPt, hsn, ze, zc, zb, za]
        refine ⟨(i + 1, H1.nb + 1, _), ⟨hkl, ?_, by simp only; omega, by simp only [zc, za]; omega, fun x hx => ?_⟩, by simp only; omega, Wk.of (by simp only [go_sem, ↓List.forall_mem_cons, List.not_mem_nil, false_implies, implies_true, and_true, true_and, and_self, ri_eq, Int.natCast_add, Int.cast_ofNat_Int, rREC]; try simp) rfl⟩
        · simp (disch := omega) only [ze, zb, zc, za, if_pos, if_neg, ↓reduceIte]
        · simp (disch := omega) only [ze, zb, zc, za, if_pos, if_neg, ↓reduceIte]
          exact ho x hx
      · have e1 : ((i : Int) != (k : Int)) = true := by rw [bne_iff_ne]; omega
        have glp := recs_load (R := R) (k := k) (by omega)
        have glq := recs_load (R := R) (k := i) (by omega)
        have vp := vAll_at hva (k := k) (by omega)
        have vq := vAll_at hva (k := i) (by omega)
        have lp := hR.2 k (by omega)
        have lq := hR.2 i (by omega)
        have hfp : fl R k = (gR R k).2.2.2 := rfl
        have hfq : fl R i = (gR R i).2.2.2 := rfl
        obtain ⟨a1, a2, a3, F, hr1⟩ := rec_ex R k
        obtain ⟨b1, b2, b3, G, hr2⟩ := rec_ex R i
        rw [hr1] at glp vp lp hfp
        rw [hr2] at glq vq lq hfq
        simp only [rec4] at glp glq
        simp only at hfp hfq lp lq
        have wf := Tryz.specPF_ok a1 a2 a3 F b1 b2 b3 G lp lq vp vq
        have wp := Tryz.specPW_ok Q W b (pf F G) hQ hT hW (by show 6 ≤ 1048576; omega)
        rw [← hfp, ← hfq] at wf wp
        rw [← bw_ne (R := R) (Nat.ne_of_lt hik), bw_symm] at wp
        rw [hfp, hfq] at wf wp
        generalize pf F G = fv at *
        simp (disch := omega) only [go_sem, rREC, rR, glp, glq, lC, m0, m1, e1, hm, hPs, hPt, hsn, ze, zc, zb, za]
        refine wf.callDV 1 (z6 view_rec (z6 view_rec z7)) ?_
        simp (disch := omega) only [go_sem, rREC, rR, glp, glq, lC, m0, m1, e1, hm, hPs, hPt, hsn, ze, zc, zb, za]
        refine wp.callDV 1 (z6 zi (z6 view_sS (z6 zf z7))) ?_
        simp (disch := omega) only [go_sem, rREC, rR, glp, glq, lC, m0, m1, e1, hm, hPs, hPt, hsn, ze, zc, zb, za]
        refine ⟨(k + 1, H1.nb + 1, _), ⟨hkl, ?_, by simp only; omega, by simp only [zc, za]; omega, fun x hx => ?_⟩, by simp only; omega, Wk.of (by simp only [go_sem, ↓List.forall_mem_cons, List.not_mem_nil, false_implies, implies_true, and_true, true_and, and_self, ri_eq, Int.natCast_add, Int.cast_ofNat_Int, rREC]; try simp) rfl⟩
        · simp (disch := omega) only [ze, zb, zc, za, if_pos, if_neg, ↓reduceIte]
        · simp (disch := omega) only [ze, zb, zc, za, if_pos, if_neg, ↓reduceIte]
          exact ho x hx
    · obtain rfl : k = R.length := by omega
      have hmo : H1.map ob = some ⟨cs, false⟩ := (ho ob hlo.2).trans hM.o
      have hct : cs.take i = cs := List.take_of_length_le (by omega)
      simp (disch := omega) only [go_sem, rREC, hmo, hcl, hct, ze, zc, zb, za]
      refine ⟨(i + 1, H1.nb + 1, cs ++ [.own rb 0 R.length R.length 1 false], fun r => if r < (bwm R Q W b i).length then nm r else rb, _), ⟨hlt, ?_, ?_, ?_, ?_⟩, by simp only; omega, Wk.of (by simp only [go_sem, ↓List.forall_mem_cons, List.not_mem_nil, false_implies, implies_true, and_true, true_and, and_self, ri_eq, Int.natCast_add, Int.cast_ofNat_Int, rREC]; try simp) rfl⟩
      · simp only [bwm_succ]
        refine hM.snoc (l := R.length) bwr_len.symm ?_ (e2 := false) ?_ (fun x h1 h2 h3 => ?_) ?_ ⟨?_, ?_⟩ ⟨hrb, ?_⟩ ?_
        · simp (disch := omega) only [ze, zb, zc, za, if_pos, if_neg, ↓reduceIte]
        · simp (disch := omega) only [ze, zb, zc, za, if_pos, if_neg, ↓reduceIte]
          exact hm
        · simp (disch := omega) only [ze, zb, zc, za, if_pos, if_neg, ↓reduceIte]
          exact ho x h2
        · first | omega | (simp only [zc, za]; omega)
        · first | omega | (simp only [zc, za]; omega)
        · first | omega | (simp only [zc, za]; omega)
        · first | omega | (simp only [zc, za]; omega)
        · first | omega | (simp only [zc, za]; omega)
      · simp (disch := omega) only [ze, zb, zc, za, if_pos, if_neg, ↓reduceIte]
        exact m0
      · simp (disch := omega) only [ze, zb, zc, za, if_pos, if_neg, ↓reduceIte]
        exact m1
      · simp only [zc, za]; omega
  · obtain rfl : i = R.length := by omega
    simp (disch := omega) only [go_sem, rREC]
    have := fin_matR (cap := R.length) (e := false) hM
    rw [bwm_len] at this
    exact this
set_option maxRecDepth 20000 in
set_option maxHeartbeats 16000000 in
theorem Tryz.implBW_nil (R : List Rec) (Q : List (List Con)) (W : List Int) (b : Int) (hR : LR R) (hQ : Q.length ≤ 1048576) (hT : ∀ i, i < Q.length → (rg Q i).length ≤ 1048576) (hW : W.length ≤ 1048576) (hv : okBW R Q W b = false) :
    FCall Tryz.prog 12 [rREC R, .agg [rR Q], sS W b] (fun r _ => r = .val (.slice none 0 0)) := by
  have w0 := Tryz.areRecs_ok R hR
  have w1 := Tryz.within_ok (R.length : Int) 1 8
  have w2 := Tryz.implVR_ok Q hQ hT
  have w3 := Tryz.implSc_ok W b hW
  have hRl := hR.1
  have lC := recs_length R
  rw [okBW] at hv
  refine FCall.of_body Tryz.func12 rfl (by kernel_rfl) (by simp [Tryz.ntmps12]) ?_
  refine SW_of_vc Tryz.mixed _ _ _ (by kernel_rfl) ?_
  cases h2 : inR R.length 1 8 with
  | false =>
    rw [h2] at w1
    simp (disch := omega) only [go_sem, rREC, rR]
    refine w1.callV 0 (z6 (z8) (z6 (z8) (z6 (z8) z7))) ?_
    simp (disch := omega) only [go_sem, rREC, rR]
    exact Fin.val rfl
  | true =>
  rw [h2] at w1
  cases h1 : vAll R with
  | false =>
    rw [h1] at w0
    simp (disch := omega) only [go_sem, rREC, rR]
    refine w1.callV 0 (z6 (z8) (z6 (z8) (z6 (z8) z7))) ?_
    simp (disch := omega) only [go_sem, rREC, rR]
    refine w0.callV 0 (z6 zf z7) ?_
    simp (disch := omega) only [go_sem, rREC, rR]
    exact Fin.val rfl
  | true =>
  rw [h1] at w0
  cases h3 : isVR Q with
  | false =>
    rw [h3] at w2
    simp (disch := omega) only [go_sem, rREC, rR]
    refine w1.callV 0 (z6 (z8) (z6 (z8) (z6 (z8) z7))) ?_
    simp (disch := omega) only [go_sem, rREC, rR]
    refine w0.callV 0 (z6 zf z7) ?_
    simp (disch := omega) only [go_sem, rREC, rR]
    refine w2.callV 1 (z6 zi z7) ?_
    simp (disch := omega) only [go_sem, rREC, rR]
    exact Fin.val rfl
  | true =>
  rw [h3] at w2
  cases h4 : isSc W b with
  | false =>
    rw [h4] at w3
    simp (disch := omega) only [go_sem, rREC, rR]
    refine w1.callV 0 (z6 (z8) (z6 (z8) (z6 (z8) z7))) ?_
    simp (disch := omega) only [go_sem, rREC, rR]
    refine w0.callV 0 (z6 zf z7) ?_
    simp (disch := omega) only [go_sem, rREC, rR]
    refine w2.callV 1 (z6 zi z7) ?_
    simp (disch := omega) only [go_sem, rREC, rR]
    refine w3.callV 1 (z6 view_sS z7) ?_
    simp (disch := omega) only [go_sem, rREC, rR]
    exact Fin.val rfl
  | true => rw [h1, h2, h3, h4] at hv; cases hv
def BWs (R : List Rec) (Q : List (List Con)) (W : List Int) (b : Int) (X : List (List Int)) (i k : Nat) : Prop :=
  SqI R.length X ∧ ∀ x y, x < R.length → y < R.length → mat X x y = if max x y < i ∨ (max x y = i ∧ min x y < k) then bw R Q W b x y else 0
theorem BWs.zero (R : List Rec) (Q : List (List Con)) (W : List Int) (b : Int) : BWs R Q W b (zs R.length) 0 0 := ⟨.zs _, fun x y hx hy => by
  rw [zs_at, if_neg (by omega)]⟩
theorem BWs.row {R : List Rec} {Q : List (List Con)} {W : List Int} {b : Int} {X : List (List Int)} {i : Nat} (h : BWs R Q W b X i i) : BWs R Q W b X (i + 1) 0 := ⟨h.1, fun x y hx hy => by
  rw [h.2 x y hx hy]
  by_cases h1 : max x y < i ∨ (max x y = i ∧ min x y < i)
  · rw [if_pos h1, if_pos (by omega)]
  · rw [if_neg h1]
    by_cases h2 : max x y < i + 1 ∨ (max x y = i + 1 ∧ min x y < 0)
    · rw [if_pos h2]
      have : x = y := by omega
      rw [this, bw_eq]
    · rw [if_neg h2]⟩
theorem BWs.all {R : List Rec} {Q : List (List Con)} {W : List Int} {b : Int} {X : List (List Int)} (h : BWs R Q W b X R.length 0) : X = bwM R Q W b :=
  h.1.ext (genM_sq _ _) fun x y hx hy => by rw [h.2 x y hx hy, if_pos (by omega), bwM, genM_at hx hy]
theorem BWs.put {R : List Rec} {Q : List (List Con)} {W : List Int} {b : Int} {X : List (List Int)} {i k : Nat} (h : BWs R Q W b X i k) (hki : k < i) (hi : i < R.length) : BWs R Q W b (mset (mset X i k (bw R Q W b i k)) k i (bw R Q W b i k)) i (k + 1) := by
  have s1 := h.1.set i k (bw R Q W b i k)
  refine ⟨s1.set k i _, fun x y hx hy => ?_⟩
  have r1 := h.1.2 i hi
  have l1 := h.1.1
  have r2 : (mrow (mset X i k (bw R Q W b i k)) k).length = R.length := by rw [mset_row_length, h.1.2 k (by omega)]
  have e1 : mat (mset X i k (bw R Q W b i k)) x y = if x = i ∧ y = k then bw R Q W b i k else mat X x y := mset_at X i k _ (by omega) (by omega)
  have e2 : mat (mset (mset X i k (bw R Q W b i k)) k i (bw R Q W b i k)) x y = if x = k ∧ y = i then bw R Q W b i k else mat (mset X i k (bw R Q W b i k)) x y := mset_at _ k i _ (by rw [s1.1]; omega) (by omega)
  rw [e2, e1, h.2 x y hx hy]
  by_cases c1 : x = k ∧ y = i
  · rw [if_pos c1, if_pos (by omega), c1.1, c1.2, bw_symm]
  · rw [if_neg c1]
    by_cases c2 : x = i ∧ y = k
    · rw [if_pos c2, if_pos (by omega), c2.1, c2.2]
    · rw [if_neg c2]
      by_cases c3 : max x y < i ∨ (max x y = i ∧ min x y < k)
      · rw [if_pos c3, if_pos (by omega)]
      · rw [if_neg c3, if_neg (by omega)]
set_option maxRecDepth 20000 in
set_option maxHeartbeats 16000000 in
theorem Tryz.implBW_f (R : List Rec) (Q : List (List Con)) (W : List Int) (b : Int) (hR : LR R) (hQ : Q.length ≤ 1048576) (hT : ∀ i, i < Q.length → (rg Q i).length ≤ 1048576) (hW : W.length ≤ 1048576) (hv : okBW R Q W b = true) :
    FCall Tryz.prog 12 [rREC R, .agg [rR Q], sS W b] (MatRes (mi (bwR R Q W b))) := by
  have w0 := Tryz.areRecs_ok R hR
  have w1 := Tryz.within_ok (R.length : Int) 1 8
  have w2 := Tryz.implVR_ok Q hQ hT
  have w3 := Tryz.implSc_ok W b hW
  have hRl := hR.1
  have lC := recs_length R
  have hv2 := hv
  rw [okBW, Bool.and_eq_true, Bool.and_eq_true, Bool.and_eq_true] at hv2
  obtain ⟨h1, h2, h3, h4⟩ := hv2
  rw [h1] at w0
  rw [h2] at w1
  rw [h3] at w2
  rw [h4] at w3
  have hn8 := inR_of h2
  rw [bwR_t hv]
  refine FCall.of_body Tryz.func12 rfl (by kernel_rfl) (by simp [Tryz.ntmps12]) ?_
  refine SW_of_vc Tryz.mixed _ _ _ (by kernel_rfl) ?_
  simp (disch := omega) only [go_sem, rREC, rR]
  refine w1.callV 0 (z6 (z8) (z6 (z8) (z6 (z8) z7))) ?_
  simp (disch := omega) only [go_sem, rREC, rR]
  refine w0.callV 0 (z6 zf z7) ?_
  simp (disch := omega) only [go_sem, rREC, rR]
  refine w2.callV 1 (z6 zi z7) ?_
  simp (disch := omega) only [go_sem, rREC, rR]
  refine w3.callV 1 (z6 view_sS z7) ?_
  simp (disch := omega) only [go_sem, rREC, rR]
  refine (Tryz.square_one R.length (by omega)).callMat (mi_vals _) 0 (z6 (z8) z7) ?_
  simp (disch := omega) only [go_sem, rREC, zs_length]
  refine LoopW.loop (fun y : Nat × List (List Int) × Nat => ⟨ofL [(0, rREC R), (4, .optr 0 0), (5, .optr 1 0), (7, .own 2 0 R.length R.length 1 false), (35, rREC R), (36, .val (.int .i64 R.length)), (37, .val (.int .i64 y.1))], hx [.mat 2 (mi y.2.1), .blk 1 ⟨[.row W.length false (ints W), .val (.int .i64 b)], true⟩, .blk 0 ⟨[.row Q.length false (rules Q)], true⟩] y.2.2⟩)
    (fun y => y.1 ≤ R.length ∧ BWs R Q W b y.2.1 y.1 0 ∧ R.length + 2 < y.2.2) (fun y => R.length - y.1) (0, zs R.length, 2 + R.length + 1) ⟨by simp, .zero R Q W b, by simp only; omega⟩
    (Wk.ofX (by simp only [go_sem, ↓List.forall_mem_cons, List.not_mem_nil, false_implies, implies_true, and_true, true_and, and_self, ri_eq, Int.natCast_add, Int.cast_ofNat_Int, rREC, zs_length]; try simp) (by simp only [List.forall_mem_cons]; refine ⟨by first | exact EntIn.self | exact EntIn.self.skipM (by simp only [zo]; omega) | exact (EntIn.self.skipM (by simp only [zo]; omega)).skipM (by simp only [zo]; omega), ?_⟩; simp (disch := omega) only [EntIn, hx_map, zk, zl, zs_length, if_pos, if_neg, ↓reduceIte, List.not_mem_nil, false_implies, implies_true, and_true, and_self]) (Nat.le_refl _)) ?_
  clear w0 w1 w2 w3
  rintro ⟨i, X, nb⟩ ⟨hi, hX, hnb⟩
  simp only at hi hX hnb
  have hXl := hX.1.1
  refine SW_of_vc Tryz.mixed _ _ _ (by kernel_rfl) ?_
  by_cases hlt : i < R.length
  · have gli := recs_load (R := R) (k := i) hlt
    have vi := vRec_f (a := (gR R i).1) (b := (gR R i).2.1) (c := (gR R i).2.2.1) (F := (gR R i).2.2.2) (vAll_at h1 hlt)
    have hfi : fl R i = (gR R i).2.2.2 := rfl
    have htk : (recs R).take (i * 4) = recs (R.take i) := by
      have e1 := recs_drop R i
      have e2 : recs R = recs (R.take i) ++ recs (R.drop i) := by rw [recs, recs, recs, ← List.flatMap_append, List.take_append_drop]
      rw [e2, List.take_left' (by rw [recs_length, List.length_take, Nat.min_eq_left (by omega)])]
    have lC2 : (recs (R.take i)).length = i * 4 := by rw [recs_length, List.length_take, Nat.min_eq_left (by omega)]
    obtain ⟨a1, a2, a3, F, hr1⟩ := rec_ex R i
    rw [hr1] at gli vi hfi
    simp only [rec4] at gli
    simp only at vi hfi
    simp (disch := omega) only [go_sem, rREC, rR, zk, xset_skipI, hXl, gli, lC, htk]
    refine LoopW.loop (fun y : Nat × List (List Int) × Nat => ⟨ofL [(0, rREC R), (4, .optr 0 0), (5, .optr 1 0), (7, .own 2 0 R.length R.length 1 false), (8, .val (.int .i64 i)), (9, .optr nb 0), (35, rREC R), (36, .val (.int .i64 R.length)), (37, .val (.int .i64 i)), (44, .row i false (recs (R.take i))), (45, .val (.int .i64 i)), (46, .val (.int .i64 y.1))], hx [.mat 2 (mi y.2.1), .blk nb ⟨[.val (.int .i64 a1), .val (.int .i64 a2), .val (.int .i64 a3), .row F.length false (strs F)], true⟩, .blk 1 ⟨[.row W.length false (ints W), .val (.int .i64 b)], true⟩, .blk 0 ⟨[.row Q.length false (rules Q)], true⟩] y.2.2⟩)
      (fun y => y.1 ≤ i ∧ BWs R Q W b y.2.1 i y.1 ∧ nb < y.2.2) (fun y => i - y.1) (0, X, nb + 1) ⟨by simp, hX, by simp only; omega⟩
      (Wk.ofX (by simp only [go_sem, ↓List.forall_mem_cons, List.not_mem_nil, false_implies, implies_true, and_true, true_and, and_self, ri_eq, Int.natCast_add, Int.cast_ofNat_Int, rREC]; try simp) (by simp only [List.forall_mem_cons]; refine ⟨by first | exact EntIn.self | exact EntIn.self.skipM (by simp only [zo]; omega) | exact (EntIn.self.skipM (by simp only [zo]; omega)).skipM (by simp only [zo]; omega), ?_⟩; simp (disch := omega) only [EntIn, hx_map, zk, zl, zs_length, if_pos, if_neg, ↓reduceIte, List.not_mem_nil, false_implies, implies_true, and_true, and_self]) (Nat.le_refl _)) ?_
    clear hX hXl
    rintro ⟨k, X, nb2⟩ ⟨hk, hX, hnb2⟩
    simp only at hk hX hnb2
    have hXl := hX.1.1
    refine SW_of_vc Tryz.mixed _ _ _ (by kernel_rfl) ?_
    by_cases hkl : k < i
    · have glk := recs_load (R := R.take i) (k := k) (by rw [List.length_take]; omega)
      have hgk : gR (R.take i) k = gR R k := by simp [gR, List.getD, List.getElem?_take_of_lt hkl]
      have vk := vRec_f (a := (gR R k).1) (b := (gR R k).2.1) (c := (gR R k).2.2.1) (F := (gR R k).2.2.2) (vAll_at h1 (by omega))
      have hfk : fl R k = (gR R k).2.2.2 := rfl
      rw [hgk] at glk
      obtain ⟨b1, b2, b3, G, hr2⟩ := rec_ex R k
      rw [hr2] at glk vk hfk
      simp only [rec4] at glk
      simp only at vk hfk
      have wf := Tryz.feat_ok a1 a2 a3 F b1 b2 b3 G vi vk
      have wp := Tryz.implPW_ok Q W b (pf F G) hQ hT hW (by show 6 ≤ 1048576; omega)
      rw [← hfi, ← hfk] at wf wp
      rw [← bw_ne (R := R) (Nat.ne_of_gt hkl)] at wp
      rw [hfi, hfk] at wf wp
      have hX2 := hX.put hkl hlt
      generalize pf F G = fv at *
      generalize bw R Q W b i k = v at *
      have r1 := hX.1.2 i (by omega)
      have r2 := hX.1.2 k (by omega)
      have l2 : (mset X i k v).length = R.length := by rw [mset_length, hXl]
      have r3 : (mrow (mset X i k v) k).length = R.length := by rw [mset_row_length, r2]
      have l3 : (mset (mset X i k v) k i v).length = R.length := by rw [mset_length, l2]
      simp (disch := omega) only [go_sem, rREC, rR, zk, xset_skipI, hXl, glk, lC2]
      refine wf.callDV 1 (z6 view_rec (z6 view_rec z7)) ?_
      simp (disch := omega) only [go_sem, rREC, rR, zk, xset_skipI, hXl, glk, lC2]
      refine wp.callDV 1 (z6 zi (z6 view_sS (z6 zf z7))) ?_
      simp (disch := omega) only [go_sem, rREC, rR, zk, xset_skipI, hXl, glk, lC2, outerB_getI, xmap_rowI, xset_rowI, r1, r2, r3, l2]
      exact ⟨(k + 1, mset (mset X i k v) k i v, nb2 + 1), ⟨hkl, hX2, by simp only; omega⟩, by simp only; omega, Wk.ofX (by simp only [go_sem, ↓List.forall_mem_cons, List.not_mem_nil, false_implies, implies_true, and_true, true_and, and_self, ri_eq, Int.natCast_add, Int.cast_ofNat_Int, rREC]; try simp) (by simp only [List.forall_mem_cons]; refine ⟨by first | exact EntIn.self | exact EntIn.self.skipM (by simp only [zo]; omega) | exact (EntIn.self.skipM (by simp only [zo]; omega)).skipM (by simp only [zo]; omega), ?_⟩; simp (disch := omega) only [EntIn, hx_map, zk, zl, zs_length, if_pos, if_neg, ↓reduceIte, List.not_mem_nil, false_implies, implies_true, and_true, and_self]) (Nat.le_refl _)⟩
    · obtain rfl : k = i := by omega
      simp (disch := omega) only [go_sem, rREC, rR, zk, xset_skipI, hXl]
      exact ⟨(k + 1, X, nb2), ⟨hlt, hX.row, by simp only; omega⟩, by simp only; omega, Wk.ofX (by simp only [go_sem, ↓List.forall_mem_cons, List.not_mem_nil, false_implies, implies_true, and_true, true_and, and_self, ri_eq, Int.natCast_add, Int.cast_ofNat_Int, rREC]; try simp) (by simp only [List.forall_mem_cons]; refine ⟨by first | exact EntIn.self | exact EntIn.self.skipM (by simp only [zo]; omega) | exact (EntIn.self.skipM (by simp only [zo]; omega)).skipM (by simp only [zo]; omega), ?_⟩; simp (disch := omega) only [EntIn, hx_map, zk, zl, zs_length, if_pos, if_neg, ↓reduceIte, List.not_mem_nil, false_implies, implies_true, and_true, and_self]) (Nat.le_refl _)⟩
  · obtain rfl : i = R.length := by omega
    have hXX := hX.all
    simp (disch := omega) only [go_sem, rREC, rR, zk, xset_skipI, hXl]
    rw [← hXX]
    exact fin_mat .self (mi_vals _) (by rw [zo, hXl])
theorem Tryz.implBW_one (R : List Rec) (Q : List (List Con)) (W : List Int) (b : Int) (hR : LR R) (hQ : Q.length ≤ 1048576) (hT : ∀ i, i < Q.length → (rg Q i).length ≤ 1048576) (hW : W.length ≤ 1048576) (hv : okBW R Q W b = true) : FCall Tryz.prog 12 [rREC R, .agg [rR Q], sS W b] (MatOne (mi (bwR R Q W b))) := (Tryz.implBW_f R Q W b hR hQ hT hW hv).mat
theorem Tryz.implBW_ok (R : List Rec) (Q : List (List Con)) (W : List Int) (b : Int) (hR : LR R) (hQ : Q.length ≤ 1048576) (hT : ∀ i, i < Q.length → (rg Q i).length ≤ 1048576) (hW : W.length ≤ 1048576) : PCall Tryz.prog 12 [rREC R, .agg [rR Q], sS W b] (rr (bwR R Q W b)) := by
  cases hv : okBW R Q W b with
  | true => exact (Tryz.implBW_one R Q W b hR hQ hT hW hv).pcall 2 (fun _ _ h => h.viewI)
  | false => rw [bwR_f hv]; exact (Tryz.implBW_nil R Q W b hR hQ hT hW hv).pcall 0 (by rintro r H rfl; exact view_nilM)
end Go.Sh
