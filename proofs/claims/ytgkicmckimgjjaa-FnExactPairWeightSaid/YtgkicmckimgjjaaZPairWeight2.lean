/-
  Texts put together: D1, Lift, G1, D2, H1, K1, K2, K3, P1, G2, G3, BA1, MX. What each proves stands at its own head, with its conditions.
-/
import Derived.Test.YtgkicmckimgjjaaZPairWeight1
import Derived.Test.YtgkicmckimgjjaaRows
import Derived.WalkKit
import Derived.ProofKit
import Derived.OpenShut
import Derived.ShutString
import Derived.ChangeOld
import Derived.Below
import Derived.Deep.Slices

/-
  Contracts: lists marked in place, and read back.
-/
namespace Go.Sh
set_option linter.unusedSimpArgs false
set_option linter.unusedVariables false
open Go Go.Proofs

/-- k, k+1, .. in the first i places. -/
def markTo (L : List Int) (k : Int) (i : Nat) : List Int := (List.range i).map (fun x : Nat => k + (x : Int)) ++ L.drop i
theorem markTo_zero (L : List Int) (k : Int) : markTo L k 0 = L := by simp [markTo]
theorem markTo_length {L : List Int} {k : Int} {i : Nat} (h : i ≤ L.length) : (markTo L k i).length = L.length := by simp [markTo]; omega
theorem markTo_set {L : List Int} {k : Int} {i : Nat} (h : i < L.length) : (markTo L k i).set i (k + (i : Int)) = markTo L k (i + 1) := by
  apply List.ext_getElem?
  intro x
  simp only [markTo, List.getElem?_set, List.getElem?_append, List.length_map, List.length_range, List.getElem?_map, List.getElem?_drop, List.length_append, List.length_drop]
  by_cases h1 : i = x
  · subst h1
    have : i < i + (L.length - i) := by omega
    simp [this]
  · by_cases h2 : x < i
    · have h3 : x < i + 1 := by omega
      simp [h1, h2, h3]
    · have h3 : ¬ x < i + 1 := by omega
      simp [h1, h2, h3]
      congr 1
      omega
def marks (n : Nat) (k : Int) : List Int := (List.range n).map fun x : Nat => k + (x : Int)
theorem markTo_all (L : List Int) (k : Int) : markTo L k L.length = marks L.length k := by simp [markTo, marks]
theorem marks_length (n : Nat) (k : Int) : (marks n k).length = n := by simp [marks]

set_option maxHeartbeats 1000000 in
theorem Try.markIntS_ok (L : List Int) (k : Int) (H : Heap) (b n cap : Nat) (ex e2 : Bool) (hb : H.map b = some ⟨ints L, e2⟩) (hn : n = L.length) (hL : L.length ≤ 1099511627776) (hk : 0 ≤ k) (hk2 : k ≤ 1099511627776) :
    CallS Try.prog 31 [.own b 0 n cap 1 ex, .val (.int .i64 k)] H (fun r H' => r = .val (.int .i64 (k + n)) ∧ H' = H.set b (some ⟨ints (marks n k), e2⟩)) := by
  subst hn
  refine CallS.of_body Try.func31 rfl (by kernel_rfl) (by simp [Try.ntmps31]) ?_
  refine SW_of_vc Try.mixed _ _ _ (by kernel_rfl) ?_
  simp (disch := omega) only [Try.ntmps31, Try.results31, go_sem]
  refine LoopW.loop (fun i : Nat => ⟨ofL [(0, .own b 0 L.length cap 1 ex), (1, .val (.int .i64 (k + i))), (5, .val (.int .i64 i))], H.set b (some ⟨ints (markTo L k i), e2⟩)⟩) (fun i => i ≤ L.length) (fun i => L.length - i) 0 (by omega) (Wk.of (by simp only [go_sem, ↓List.forall_mem_cons, List.not_mem_nil, false_implies, implies_true, and_true, true_and, and_self, ri_eq, Int.natCast_add, Int.cast_ofNat_Int, Int.natCast_zero, Int.add_zero]; try simp) (by rw [markTo_zero, Heap.set_self hb])) ?_
  intro i hi
  have hml := markTo_length (k := k) hi
  refine SW_of_vc Try.mixed _ _ _ (by kernel_rfl) ?_
  by_cases hlt : i < L.length
  · simp (disch := omega) only [Try.ntmps31, Try.results31, go_sem, Heap.set_at, hml, Heap.set_set, markTo_set]
    refine ⟨i + 1, by omega, by omega, Wk.of (by simp only [go_sem, ↓List.forall_mem_cons, List.not_mem_nil, false_implies, implies_true, and_true, true_and, and_self, ri_eq, Int.natCast_add, Int.cast_ofNat_Int, Int.add_assoc]; try simp) rfl⟩
  · obtain rfl : i = L.length := by omega
    simp (disch := omega) only [Try.ntmps31, Try.results31, go_sem, Heap.set_at, hml, Heap.set_set, markTo_set, markTo_all]

def held (L : List Int) (k : Int) : Int := if L = marks L.length k then k + L.length else -1
set_option maxHeartbeats 1000000 in
theorem Try.heldIntS_ok (L : List Int) (k : Int) (hL : L.length ≤ 1099511627776) (hk : 0 ≤ k) (hk2 : k ≤ 1099511627776) : PCall Try.prog 32 [ri L, .val (.int .i64 k)] (.val (.int .i64 (held L k))) := by
  refine FCall.pcall (R := fun r _ => r = .val (.int .i64 (held L k))) ?_ 0 (by rintro r H rfl; simp [view, viewV])
  refine FCall.of_body Try.func32 rfl (by kernel_rfl) (by simp [Try.ntmps32]) ?_
  refine SW_of_vc Try.mixed _ _ _ (by kernel_rfl) ?_
  simp (disch := omega) only [Try.ntmps32, Try.results32, go_sem]
  refine LoopW.loop (fun i : Nat => ⟨ofL [(0, ri L), (1, .val (.int .i64 (k + i))), (5, .val (.int .i64 i))], hp [] 0⟩) (fun i => i ≤ L.length ∧ ∀ x, x < i → L.getD x 0 = k + (x : Int)) (fun i => L.length - i) 0 ⟨by omega, by simp⟩ (Wk.of (by simp only [go_sem, ↓List.forall_mem_cons, List.not_mem_nil, false_implies, implies_true, and_true, true_and, and_self, ri_eq, Int.natCast_add, Int.cast_ofNat_Int, Int.natCast_zero, Int.add_zero]; try simp) rfl) ?_
  rintro i ⟨hi, hh⟩
  refine SW_of_vc Try.mixed _ _ _ (by kernel_rfl) ?_
  by_cases hlt : i < L.length
  · by_cases he : L.getD i 0 = k + i
    · simp (disch := omega) only [Try.ntmps32, Try.results32, go_sem, he]
      refine ⟨i + 1, ⟨by omega, fun x hx => ?_⟩, by omega, Wk.of (by simp only [go_sem, ↓List.forall_mem_cons, List.not_mem_nil, false_implies, implies_true, and_true, true_and, and_self, ri_eq, Int.natCast_add, Int.cast_ofNat_Int, Int.add_assoc]; try simp) rfl⟩
      rcases Nat.lt_succ_iff_lt_or_eq.mp hx with h | rfl
      · exact hh x h
      · exact he
    · simp (disch := omega) only [Try.ntmps32, Try.results32, go_sem]
      refine Fin.val ?_
      have : L ≠ marks L.length k := by
        intro e
        apply he
        rw [e]
        simp [marks, hlt]
      rw [held, if_neg this]
  · obtain rfl : i = L.length := by omega
    simp (disch := omega) only [Try.ntmps32, Try.results32, go_sem]
    refine Fin.val ?_
    have : L = marks L.length k := by
      apply List.ext_getElem
      · simp [marks]
      · intro x h1 h2
        have := hh x h1
        simp [h1] at this
        simp [marks, this]
    rw [held, if_pos this]
theorem held_marks (n : Nat) (k : Int) : held (marks n k) k = k + n := by rw [held, marks_length, if_pos rfl]
theorem Try.markIntS_nil (k : Int) (H : Heap) (hk : 0 ≤ k) (hk2 : k ≤ 1099511627776) : CallS Try.prog 31 [.val (.slice none 0 0), .val (.int .i64 k)] H (fun r H' => r = .val (.int .i64 k) ∧ H' = H) := by
  refine CallS.of_body Try.func31 rfl (by kernel_rfl) (by simp [Try.ntmps31]) ?_
  refine SW_of_vc Try.mixed _ _ _ (by kernel_rfl) ?_
  simp (disch := omega) only [Try.ntmps31, Try.results31, go_sem]
  refine LoopW.loop (fun _ : Unit => ⟨ofL [(0, .val (.slice none 0 0)), (1, .val (.int .i64 k)), (5, .val (.int .i64 0))], H⟩) (fun _ => True) (fun _ => 0) () trivial (Wk.of (by simp only [go_sem, ↓List.forall_mem_cons, List.not_mem_nil, false_implies, implies_true, and_true, true_and, and_self, ri_eq, Int.natCast_add, Int.cast_ofNat_Int]; try simp) rfl) ?_
  rintro _ _
  refine SW_of_vc Try.mixed _ _ _ (by kernel_rfl) ?_
  simp (disch := omega) only [Try.ntmps31, Try.results31, go_sem]
theorem Try.toIntS_one (L : List Int) (hL : L.length ≤ 1048576) : FCall Try.prog 38 [ri L] (OneRes L.length 1 (ints L)) := ((Try.toIntS_f L hL).mono fun _ _ h => h.flat).one
end Go.Sh

/-
  From the values that came in to the shadow's: slices of numbers.
-/
namespace Go.Sh
set_option linter.unusedSimpArgs false
set_option linter.unusedVariables false
open Go Go.RowKit

/-- A slice of numbers that came in, as the machine's memory has it. -/
def IsRow (k : IntKind) (w : World) (a : Option Addr) (len cap : Nat) (zs : List Int) : Prop :=
  (a = none ∧ len = 0 ∧ cap = 0 ∧ zs = []) ∨
  ∃ x, a = some x ∧ len ≤ cap ∧ cap ≤ maxLen ∧ zs.length = cap ∧ (∀ i, i < zs.length → w.cell? (x.add i) = some (.int k (zs.getD i 0))) ∧ ∀ n ∈ zs, (Lit.int k n).wf = true

theorem crel_ints {O : Nat → Prop} {w : World} : ∀ (L : List Int) (x : Addr), (L ≠ [] → ¬ O x.block) → (∀ i, i < L.length → w.cell? (x.add i) = some (.int .i64 (L.getD i 0))) → CRel O w (ints L) x
  | [], x, _, _ => by simp only [ints, List.map_nil, CRel]
  | n :: L, x, hO, h => by
    have h0 := h 0 (by simp)
    rw [Addr.add_zero'] at h0
    have hs : x.spot = none := World.cell?_spot h0
    have e : ints (n :: L) = .val (.int .i64 n) :: ints L := rfl
    rw [e]
    simp only [CRel]
    refine ⟨hs, hO (by simp), ⟨_, h0, by simp [VRel]⟩, crel_ints L ⟨x.block, x.off + 1, none⟩ (fun _ => hO (by simp)) (fun i hi => ?_)⟩
    have := h (i + 1) (by simpa using hi)
    have e2 : (⟨x.block, x.off + 1, none⟩ : Addr).add i = x.add (i + 1) := by
      rw [Addr.add_lit, Addr.add_succ']
      simp [Nat.add_assoc, Nat.add_comm 1 i]
    rw [e2, this]
    simp

theorem isRow_rel {w : World} {a : Option Addr} {len cap : Nat} {zs : List Int} (h : IsRow .i64 w a len cap zs) : VRel (fun _ => False) w noj (ri (zs.take len)) (.slice a len cap) := by
  rcases h with ⟨rfl, rfl, rfl, rfl⟩ | ⟨x, rfl, h1, h2, h3, h4, h5⟩
  · simp only [ri, VRel]
    exact ⟨none, 0, rfl, Nat.le_refl _, by simp, .inl (by simp [ints])⟩
  · have hl : (zs.take len).length = len := by simp; omega
    simp only [ri, VRel]
    refine ⟨some x, cap, by rw [hl], by omega, by simp, .inr ⟨x, rfl, crel_ints _ x (fun _ h => h) (fun i hi => ?_)⟩⟩
    have hi' : i < len := by rw [hl] at hi; exact hi
    rw [h4 i (by omega)]
    congr 2
    simp [List.getD, hi']

def i64R (n : Int) : Prop := -9223372036854775808 ≤ n ∧ n ≤ 9223372036854775807
theorem wf_i64 {n : Int} (h : (Lit.int .i64 n).wf = true) : i64R n := by
  simp [Lit.wf, IntKind.min, IntKind.max, IntKind.signed, IntKind.bits] at h
  unfold i64R
  omega

section
variable {Hh : Type} {enc : TypeId × Value → Hh} {P : Program} {w : World} {held : Bool}
open Go.ChangeShapes Go.WideShapes

theorem cell_ints {t e : TypeId} {fuel : Nat} {v : Value} {x : DataW Hh × List MemPlace} (ht : P.underlying t = some (.slice e)) (he : P.underlying e = some (.int .i64)) (hc : P.cellsOf e = 1)
    (h : DataW.trod enc P w 0 (fun _ => true) held fuel t [v] = some x) : ∃ L : List Int, VRel (fun _ => False) w noj (ri L) v ∧ (∀ n ∈ L, i64R n) ∧ L.length ≤ maxLen := by
  rcases open_ints ht he hc h with ⟨hcs, _⟩ | ⟨a, l, c, zs, hcs, _, hl, hm, hz, _, hcell, hwz⟩
  · simp at hcs
    subst hcs
    exact ⟨[], isRow_rel (zs := []) (.inl ⟨rfl, rfl, rfl, rfl⟩), by simp, by simp⟩
  · simp at hcs
    subst hcs
    exact ⟨zs.take l, isRow_rel (.inr ⟨_, rfl, hl, hm, by simpa using hz, hcell, hwz⟩), fun n hn => wf_i64 (hwz n (List.mem_of_mem_take hn)), by simp; omega⟩

/-- Numbers by rows, to read. -/
def rows (M : List (List Int)) : List SV := M.map ri
def rr (M : List (List Int)) : SV := .row M.length false (rows M)

theorem addr_at {x : Addr} (hs : x.spot = none) (i : Nat) : x.add i = ⟨x.block, x.off + i, none⟩ := by
  obtain ⟨b, o, s⟩ := x
  simp at hs; subst hs
  unfold Addr.add
  by_cases h : i = 0 <;> simp [h]

theorem crel_fn {ss : List SV} {x : Addr} (h : ∀ i s, ss[i]? = some s → ∃ v, w.cell? (x.add i) = some v ∧ VRel (fun _ => False) w noj s v) : CRel (fun _ => False) w ss x := by
  cases ss with
  | nil => simp only [CRel]
  | cons s ss =>
    obtain ⟨v, h0, _⟩ := h 0 s (by simp)
    rw [Addr.add_zero'] at h0
    have hs : x.spot = none := World.cell?_spot h0
    obtain ⟨b, o, sp⟩ := x
    simp at hs; subst hs
    exact CRel.mk (fun _ h => h) (fun i s' hi => by
      obtain ⟨v', g1, g2⟩ := h i s' hi
      rw [addr_at rfl] at g1
      exact ⟨v', g1, g2⟩)

theorem cell_rows {t e q : TypeId} {fuel : Nat} {v : Value} {x : DataW Hh × List MemPlace} (ht : P.underlying t = some (.slice e)) (he : P.underlying e = some (.slice q)) (hq : P.underlying q = some (.int .i64)) (ce : P.cellsOf e = 1) (cq : P.cellsOf q = 1)
    (h : DataW.trod enc P w 0 (fun _ => true) held fuel t [v] = some x) : ∃ M : List (List Int), VRel (fun _ => False) w noj (rr M) v ∧ (∀ L ∈ M, (∀ n ∈ L, i64R n) ∧ L.length ≤ maxLen) ∧ M.length ≤ maxLen := by
  rcases Deep.open_slice1 ht ce h with ⟨hcs, _⟩ | ⟨a, len, cap, m, n, V, D, Pl, hcs, hb, hl, hm, hmm, _, hx⟩
  · simp at hcs
    subst hcs
    refine ⟨[], ?_, by simp, by simp⟩
    simp only [rr, VRel]
    exact ⟨none, 0, rfl, Nat.le_refl _, by simp, .inl (by simp [rows])⟩
  · simp at hcs
    subst hcs
    simp only [if_true] at hmm
    subst hmm
    obtain ⟨L, hL⟩ := Deep.choose_lt (α := List Int) (p := fun i L => VRel (fun _ => False) w noj (ri L) (V i) ∧ (∀ n ∈ L, i64R n) ∧ L.length ≤ maxLen) (fun i hi => cell_ints he hq cq (hx i hi).2)
    refine ⟨(List.range len).map L, ?_, ?_, by simp; omega⟩
    · simp only [rr, VRel]
      refine ⟨some a, m, by simp, by simpa using hl, by simp, .inr ⟨a, rfl, crel_fn (fun i s hi => ?_)⟩⟩
      simp only [rows, List.map_map, List.getElem?_map, Option.map_eq_some_iff] at hi
      obtain ⟨k, hk, rfl⟩ := hi
      have hi : i < len := by
        have := (List.getElem?_eq_some_iff.1 hk).1
        simpa using this
      obtain rfl : i = k := by simpa [hi] using hk
      exact ⟨V i, (hx i (by omega)).1, (hL i (by omega)).1⟩
    · intro l hl'
      simp only [List.mem_map, List.mem_range] at hl'
      obtain ⟨i, hi, rfl⟩ := hl'
      exact (hL i (by omega)).2

/-- A constraint: two items; are they together? -/
abbrev Con := Int × Int × Bool
def con3 (c : Con) : List SV := [.val (.int .i64 c.1), .val (.int .i64 c.2.1), .val (.bool c.2.2)]
def cons (C : List Con) : List SV := C.flatMap con3
def rc (C : List Con) : SV := .row C.length false (cons C)
theorem cons_get : ∀ (C : List Con) (i : Nat) (s : SV), (cons C)[i]? = some s → ∃ c, C[i / 3]? = some c ∧ (con3 c)[i % 3]? = some s
  | [], i, s, h => by simp [cons] at h
  | c :: C, i, s, h => by
    have e : cons (c :: C) = con3 c ++ cons C := rfl
    rw [e, List.getElem?_append] at h
    have e3 : (con3 c).length = 3 := rfl
    rw [e3] at h
    split at h
    · rename_i hlt
      refine ⟨c, ?_, ?_⟩
      · rw [Nat.div_eq_of_lt hlt]; rfl
      · rw [Nat.mod_eq_of_lt hlt]; exact h
    · rename_i hge
      obtain ⟨d, h1, h2⟩ := cons_get C (i - 3) s h
      refine ⟨d, ?_, ?_⟩
      · have : i / 3 = (i - 3) / 3 + 1 := by omega
        rw [this]; simpa using h1
      · have : i % 3 = (i - 3) % 3 := by omega
        rw [this]; exact h2

theorem cell_cons {t e : TypeId} {f0 f1 f2 : Field} {fuel : Nat} {v : Value} {x : DataW Hh × List MemPlace} (ht : P.underlying t = some (.slice e)) (he : P.underlying e = some (.struct #[f0, f1, f2])) (ce : P.cellsOf e = 3)
    (o0 : f0.offset = 0) (o1 : f1.offset = 1) (o2 : f2.offset = 2) (u0 : P.underlying f0.type = some (.int .i64)) (u1 : P.underlying f1.type = some (.int .i64)) (u2 : P.underlying f2.type = some .bool) (c0 : P.cellsOf f0.type = 1) (c1 : P.cellsOf f1.type = 1) (c2 : P.cellsOf f2.type = 1)
    (h : DataW.trod enc P w 0 (fun _ => true) held fuel t [v] = some x) : ∃ C : List Con, VRel (fun _ => False) w noj (rc C) v ∧ (∀ c ∈ C, i64R c.1 ∧ i64R c.2.1) ∧ C.length ≤ maxLen := by
  rcases Deep.open_slice ht h with ⟨hcs, _⟩ | ⟨a, len, cap, m, n, D, Pl, hcs, hb, hl, hm, hmm, _, hx⟩
  · simp at hcs
    subst hcs
    refine ⟨[], ?_, by simp, by simp⟩
    simp only [rc, VRel]
    exact ⟨none, 0, rfl, Nat.le_refl _, by simp, .inl (by simp [cons])⟩
  · simp at hcs
    subst hcs
    simp only [if_true] at hmm
    subst hmm
    rw [ce] at hx
    obtain ⟨C, hC⟩ := Deep.choose_lt (α := Con) (p := fun i c => (∀ k s, (con3 c)[k]? = some s → ∃ u, w.cell? (a.add (i * 3 + k)) = some u ∧ VRel (fun _ => False) w noj s u) ∧ i64R c.1 ∧ i64R c.2.1) (fun i hi => by
      obtain ⟨cs, h1, h2⟩ := hx i hi
      obtain ⟨_, hlen, hcell⟩ := World.cells?_some h1
      obtain ⟨xs, k, hk, hxy, _, hxl, hf⟩ := DataW.trod_struct he h2
      match xs, hxl, cs, hlen with
      | [y0, y1, y2], _, [v0, v1, v2], _ =>
        have g0 := hf 0 f0 rfl
        have g1 := hf 1 f1 rfl
        have g2 := hf 2 f2 rfl
        simp [o0, o1, o2, c0, c1, c2] at g0 g1 g2
        obtain ⟨n0, q0, _, w0⟩ := DataW.trod_int u0 g0
        obtain ⟨n1, q1, _, w1⟩ := DataW.trod_int u1 g1
        obtain ⟨b2, q2, _⟩ := DataW.trod_bool u2 g2
        simp at q0 q1 q2
        subst q0 q1 q2
        have e0 := hcell 0 (by omega)
        have e1 := hcell 1 (by omega)
        have e2 := hcell 2 (by omega)
        rw [Deep.add_add] at e0 e1 e2
        refine ⟨(n0, n1, b2), ?_, wf_i64 w0, wf_i64 w1⟩
        intro k s hs
        match k, hs with
        | 0, hs => simp [con3] at hs; subst hs; exact ⟨_, by simpa using e0, by simp only [VRel]⟩
        | 1, hs => simp [con3] at hs; subst hs; exact ⟨_, by simpa using e1, by simp only [VRel]⟩
        | 2, hs => simp [con3] at hs; subst hs; exact ⟨_, by simpa using e2, by simp only [VRel]⟩
        | k + 3, hs => simp [con3] at hs)
    refine ⟨(List.range len).map C, ?_, ?_, by simp; omega⟩
    · simp only [rc, VRel]
      refine ⟨some a, m, by simp, by simpa using hl, by simp, .inr ⟨a, rfl, crel_fn (fun i s hi => ?_)⟩⟩
      obtain ⟨c, h1, h2⟩ := cons_get _ _ _ hi
      have hi3 : i / 3 < len := by
        have := (List.getElem?_eq_some_iff.1 h1).1
        simpa using this
      obtain rfl : C (i / 3) = c := by simpa [hi3] using h1
      obtain ⟨u, g1, g2⟩ := (hC (i / 3) (by omega)).1 _ _ h2
      exact ⟨u, by rw [← g1]; congr 2; omega, g2⟩
    · intro c hc
      simp only [List.mem_map, List.mem_range] at hc
      obtain ⟨i, hi, rfl⟩ := hc
      exact (hC i (by omega)).2

/-- A clustering: labels, cost, exact, gap. -/
structure Clu where
  labels : List Int
  cost : Int
  exact : Bool
  gap : Int
def sclu (c : Clu) : SV := .agg [ri c.labels, .val (.int .i64 c.cost), .val (.bool c.exact), .val (.int .i64 c.gap)]

theorem cell_clu {t e : TypeId} {f0 f1 f2 f3 : Field} {fuel : Nat} {cs : List Value} {x : DataW Hh × List MemPlace} (ht : P.underlying t = some (.struct #[f0, f1, f2, f3])) (hlen : cs.length = 4)
    (o0 : f0.offset = 0) (o1 : f1.offset = 1) (o2 : f2.offset = 2) (o3 : f3.offset = 3) (u0 : P.underlying f0.type = some (.slice e)) (ue : P.underlying e = some (.int .i64)) (ce : P.cellsOf e = 1) (u1 : P.underlying f1.type = some (.int .i64)) (u2 : P.underlying f2.type = some .bool) (u3 : P.underlying f3.type = some (.int .i64))
    (c0 : P.cellsOf f0.type = 1) (c1 : P.cellsOf f1.type = 1) (c2 : P.cellsOf f2.type = 1) (c3 : P.cellsOf f3.type = 1)
    (h : DataW.trod enc P w 0 (fun _ => true) held fuel t cs = some x) : ∃ c : Clu, LRel (fun _ => False) w noj [ri c.labels, .val (.int .i64 c.cost), .val (.bool c.exact), .val (.int .i64 c.gap)] cs ∧ (∀ n ∈ c.labels, i64R n) ∧ c.labels.length ≤ maxLen ∧ i64R c.cost ∧ i64R c.gap := by
  obtain ⟨xs, k, hk, hxy, _, hxl, hf⟩ := DataW.trod_struct ht h
  match xs, hxl, cs, hlen with
  | [y0, y1, y2, y3], _, [v0, v1, v2, v3], _ =>
    have g0 := hf 0 f0 rfl
    have g1 := hf 1 f1 rfl
    have g2 := hf 2 f2 rfl
    have g3 := hf 3 f3 rfl
    simp [o0, o1, o2, o3, c0, c1, c2, c3] at g0 g1 g2 g3
    obtain ⟨L, hL, hr, hlL⟩ := cell_ints u0 ue ce g0
    obtain ⟨n1, q1, _, w1⟩ := DataW.trod_int u1 g1
    obtain ⟨b2, q2, _⟩ := DataW.trod_bool u2 g2
    obtain ⟨n3, q3, _, w3⟩ := DataW.trod_int u3 g3
    simp at q1 q2 q3
    subst q1 q2 q3
    refine ⟨⟨L, n1, b2, n3⟩, ?_, hr, hlL, wf_i64 w1, wf_i64 w3⟩
    simp only [LRel, VRel]
    exact ⟨_, _, rfl, hL, _, _, rfl, rfl, _, _, rfl, rfl, _, _, rfl, rfl, rfl⟩
end

theorem PCall.law {P : Program} {f : FuncId} {args : List SV} {vs : List Value} {w : World} (h : PCall P f args (.val (.bool true))) (hl : LRel (fun _ => False) w noj args vs) :
    Calls P f vs.toArray w fun e w' => e = .returned (.bool true) ∧ Below w.heap.size w w' := by
  refine (h.2 w vs hl).mono ?_
  rintro e w' ⟨v, rfl, h2, h3⟩
  simp only [VRel] at h3
  subst h3
  exact ⟨rfl, h2⟩
end Go.Sh

/-
  Contracts: constraints, copied and compared.
-/
namespace Go.Sh
set_option linter.unusedSimpArgs false
set_option linter.unusedVariables false
open Go Go.Proofs

def dc : Con := (0, 0, false)
def cg (C : List Con) (k : Nat) : Con := C.getD k dc
theorem cons_length (C : List Con) : (cons C).length = C.length * 3 := by
  induction C with
  | nil => rfl
  | cons c C ih =>
    have e : cons (c :: C) = con3 c ++ cons C := rfl
    rw [e, List.length_append, ih]
    simp [con3]; omega
theorem cons_drop : ∀ (C : List Con) (k : Nat), (cons C).drop (k * 3) = cons (C.drop k)
  | C, 0 => by simp
  | [], k + 1 => by simp [cons]
  | c :: C, k + 1 => by
    have e : cons (c :: C) = con3 c ++ cons C := rfl
    have e2 : (k + 1) * 3 = k * 3 + 1 + 1 + 1 := by omega
    rw [e, e2]
    show (cons C).drop (k * 3) = cons (C.drop k)
    exact cons_drop C k
theorem cons_load {C : List Con} {k : Nat} (h : k < C.length) : ((cons C).drop (k * 3)).take 3 = [.val (.int .i64 (cg C k).1), .val (.int .i64 (cg C k).2.1), .val (.bool (cg C k).2.2)] := by
  rw [cons_drop, List.drop_eq_getElem_cons h]
  have e : cg C k = C[k] := by simp [cg, h]
  rw [e]
  rfl
theorem cons_at {C : List Con} {k i : Nat} (h : k < C.length) (hi : i < 3) : (cons C)[k * 3 + i]? = (con3 (cg C k))[i]? := by
  have := cons_load h
  have h2 : (((cons C).drop (k * 3)).take 3)[i]? = (con3 (cg C k))[i]? := by rw [this]; rfl
  rw [List.getElem?_take, if_pos hi, List.getElem?_drop] at h2
  exact h2
theorem cons_at0 {C : List Con} {k : Nat} (h : k < C.length) : (cons C)[k * 3]? = some (.val (.int .i64 (cg C k).1)) := cons_at (i := 0) h (by omega)
theorem cons_at1 {C : List Con} {k : Nat} (h : k < C.length) : (cons C)[k * 3 + 1]? = some (.val (.int .i64 (cg C k).2.1)) := cons_at h (by omega)
theorem cons_at2 {C : List Con} {k : Nat} (h : k < C.length) : (cons C)[k * 3 + 2]? = some (.val (.bool (cg C k).2.2)) := cons_at h (by omega)
theorem con_ex (C : List Con) (k : Nat) : ∃ a b s, cg C k = (a, b, s) := ⟨_, _, _, rfl⟩
theorem cons_of {C : List Con} {k : Nat} {a b : Int} {s : Bool} (h : k < C.length) (e : cg C k = (a, b, s)) : (cons C)[k * 3]? = some (.val (.int .i64 a)) ∧ (cons C)[k * 3 + 1]? = some (.val (.int .i64 b)) ∧ (cons C)[k * 3 + 2]? = some (.val (.bool s)) ∧
    ((cons C).drop (k * 3)).take 3 = [.val (.int .i64 a), .val (.int .i64 b), .val (.bool s)] := by
  have h0 := cons_at0 h
  have h1 := cons_at1 h
  have h2 := cons_at2 h
  have h3 := cons_load h
  rw [e] at h0 h1 h2 h3
  exact ⟨h0, h1, h2, h3⟩
theorem cons_vals (C : List Con) : (cons C).all isVal = true := by
  induction C with
  | nil => rfl
  | cons c C ih =>
    have e : cons (c :: C) = con3 c ++ cons C := rfl
    rw [e, List.all_append, ih]; rfl
theorem cons_append (A B : List Con) : cons A ++ cons B = cons (A ++ B) := by simp [cons]
theorem cons_splice : ∀ {C : List Con} {k : Nat} {a b : Int} {s : Bool}, k < C.length → splice (cons C) (k * 3) [.val (.int .i64 a), .val (.int .i64 b), .val (.bool s)] = cons (C.set k (a, b, s))
  | [], k, a, b, s, h => by simp at h
  | c :: C, 0, a, b, s, _ => rfl
  | c :: C, k + 1, a, b, s, h => by
    have ih := cons_splice (C := C) (k := k) (a := a) (b := b) (s := s) (by simpa using h)
    have e : cons (c :: C) = .val (.int .i64 c.1) :: .val (.int .i64 c.2.1) :: .val (.bool c.2.2) :: cons C := rfl
    have e2 : cons ((c :: C).set (k + 1) (a, b, s)) = .val (.int .i64 c.1) :: .val (.int .i64 c.2.1) :: .val (.bool c.2.2) :: cons (C.set k (a, b, s)) := rfl
    have e3 : (k + 1) * 3 = k * 3 + 1 + 1 + 1 := by omega
    rw [e2, ← ih, e, e3]
    simp only [splice, List.set_cons_succ]
theorem cons_set3 {C : List Con} {k : Nat} {a b : Int} {s : Bool} (h : k < C.length) : (((cons C).set (k * 3) (.val (.int .i64 a))).set (k * 3 + 1) (.val (.int .i64 b))).set (k * 3 + 1 + 1) (.val (.bool s)) = cons (C.set k (a, b, s)) := by
  have := cons_splice (a := a) (b := b) (s := s) h
  simpa only [splice] using this
theorem rep_cons (n : Nat) : rep [.val (.int .i64 0), .val (.int .i64 0), .val (.bool false)] (n * 3) = cons (List.replicate n dc) := by
  apply List.ext_getElem?
  intro i
  by_cases h : i < n * 3
  · have h3 : i / 3 < n := by omega
    have e : i = i / 3 * 3 + i % 3 := by omega
    have h4 : (cons (List.replicate n dc))[i]? = (con3 dc)[i % 3]? := by
      conv => lhs; rw [e]
      rw [cons_at (by simpa using h3) (by omega)]
      congr 2
      simp [cg, h3]
    rw [h4]
    simp only [rep, List.getElem?_map]
    rw [List.getElem?_range h]
    have : i % 3 < 3 := by omega
    simp only [Option.map_some, List.length_cons, List.length_nil]
    match i % 3, this with
    | 0, _ => rfl
    | 1, _ => rfl
    | 2, _ => rfl
  · rw [List.getElem?_eq_none (by simp [rep]; omega), List.getElem?_eq_none (by rw [cons_length]; simp; omega)]

def fillG {α : Type} (z : α) (L : List α) (k : Nat) : List α := L.take k ++ List.replicate (L.length - k) z
theorem fillG_zero {α : Type} (z : α) (L : List α) : fillG z L 0 = List.replicate L.length z := by simp [fillG]
theorem fillG_length {α : Type} (z : α) (L : List α) (k : Nat) (h : k ≤ L.length) : (fillG z L k).length = L.length := by simp [fillG]; omega
theorem fillG_set {α : Type} (z d : α) (L : List α) (k : Nat) (h : k < L.length) : (fillG z L k).set k (L.getD k d) = fillG z L (k + 1) := by
  apply List.ext_getElem?
  intro i
  simp [fillG, List.getElem?_set, List.getElem?_append, List.getElem?_take, List.getElem?_replicate]
  grind
theorem fillG_all {α : Type} (z : α) (L : List α) : fillG z L L.length = L := by simp [fillG]

def sc (c : Con) : SV := .agg [.val (.int .i64 c.1), .val (.int .i64 c.2.1), .val (.bool c.2.2)]
theorem view_con {H : Heap} {f : Nat} {k1 k2 : IntKind} {a b : Int} {s : Bool} : view H (f + 1) (.agg [.val (.int k1 a), .val (.int k2 b), .val (.bool s)]) = some (.agg [.val (.int k1 a), .val (.int k2 b), .val (.bool s)]) :=
  view_agg (viewL_cons_of view_int (viewL_cons_of view_int (viewL_cons_of view_bool viewL_nil_of)))

theorem Try.toConstraint_ok (a b : Int) (s : Bool) : PCall Try.prog 104 [.agg [.val (.int .i64 a), .val (.int .i64 b), .val (.bool s)]] (.agg [.val (.int .i64 a), .val (.int .i64 b), .val (.bool s)]) := by
  refine FCall.pcall (R := fun r _ => r = .agg [.val (.int .i64 a), .val (.int .i64 b), .val (.bool s)]) ?_ 1 (by rintro r H rfl; exact view_con) 
  refine FCall.of_body Try.func104 rfl (by kernel_rfl) (by simp [Try.ntmps104]) ?_
  refine SW_of_vc Try.mixed _ _ _ (by kernel_rfl) ?_
  simp (disch := omega) only [Try.ntmps104, Try.results104, go_sem]
  exact Fin.agg rfl rfl

theorem Try.eqConstraint_ok (a b : Int) (s : Bool) (c d : Int) (t : Bool) : PCall Try.prog 107 [.agg [.val (.int .i64 a), .val (.int .i64 b), .val (.bool s)], .agg [.val (.int .i64 c), .val (.int .i64 d), .val (.bool t)]] (.val (.bool (decide ((a, b, s) = (c, d, t))))) := by
  refine FCall.pcall (R := fun r _ => r = .val (.bool (decide ((a, b, s) = (c, d, t))))) ?_ 0 (by rintro r H rfl; exact view_bool)
  refine FCall.of_body Try.func107 rfl (by kernel_rfl) (by simp [Try.ntmps107]) ?_
  refine SW_of_vc Try.mixed _ _ _ (by kernel_rfl) ?_
  by_cases h1 : a = c
  · by_cases h2 : b = d
    · cases s <;> cases t <;> simp (disch := omega) only [Try.ntmps107, Try.results107, go_sem] <;> exact Fin.val (by simp [h1, h2])
    · simp (disch := omega) only [Try.ntmps107, Try.results107, go_sem]
      exact Fin.val (by simp [h2])
  · simp (disch := omega) only [Try.ntmps107, Try.results107, go_sem]
    exact Fin.val (by simp [h1])

set_option maxHeartbeats 1000000 in
theorem Try.toConstraintS_f (C : List Con) (hC : C.length ≤ 1048576) : FCall Try.prog 55 [rc C] (FlatRes C.length 3 (cons C)) := by
  refine FCall.of_body Try.func55 rfl (by kernel_rfl) (by simp [Try.ntmps55]) ?_
  refine SW_of_vc Try.mixed _ _ _ (by kernel_rfl) ?_
  simp (disch := omega) only [Try.ntmps55, Try.results55, go_sem, rc]
  refine LoopW.loop (fun k : Nat => ⟨ofL [(0, rc C), (3, .own 0 0 C.length C.length 3 true), (4, .val (.int .i64 k))], hp [(0, ⟨cons (fillG dc C k), true⟩)] 1⟩) (fun k => k ≤ C.length) (fun k => C.length - k) 0 (by omega)
    (Wk.of (by simp only [go_sem, ↓List.forall_mem_cons, List.not_mem_nil, false_implies, implies_true, and_true, true_and, and_self, ri_eq, Int.natCast_add, Int.cast_ofNat_Int, rc]; try simp) (by simp only [fillG_zero, rep_cons])) ?_
  intro k hk
  have hf := fillG_length dc C k hk
  have hl := cons_length (fillG dc C k)
  have hl2 := cons_length C
  refine SW_of_vc Try.mixed _ _ _ (by kernel_rfl) ?_
  by_cases hlt : k < C.length
  · simp (disch := omega) only [Try.ntmps55, Try.results55, go_sem, rc, cons_load]
    refine (Try.toConstraint_ok _ _ _).callV 1 (viewL_cons_of (view_con) viewL_nil_of) ?_
    simp (disch := omega) only [Try.ntmps55, Try.results55, go_sem, rc, cons_set3, hl, hf]
    refine ⟨k + 1, by omega, by omega, Wk.of (by simp only [go_sem, ↓List.forall_mem_cons, List.not_mem_nil, false_implies, implies_true, and_true, true_and, and_self, ri_eq, Int.natCast_add, Int.cast_ofNat_Int, rc]; try simp) ?_⟩
    have := fillG_set dc dc C k hlt
    rw [← this]; rfl
  · simp (disch := omega) only [Try.ntmps55, Try.results55, go_sem, rc]
    obtain rfl : k = C.length := by omega
    rw [fillG_all]
    exact flat_fin hl2 (cons_vals C) (by rw [hp_map, hmap_cons, if_pos rfl])

theorem flat_viewC {C : List Con} {n : Nat} {r : SV} {H : Heap} (h : FlatRes n 3 (cons C) r H) : view H 2 r = some (rc C) := by
  have hl := h.length
  rw [cons_length] at hl
  have hn : C.length = n := by omega
  obtain ⟨b, off, cap, ex, blk, rfl, h1, h2, h3, h4⟩ := h
  have hv : ∀ {cs : List SV} {f : Nat}, cs.all isVal = true → (∀ v, SV.val v ∈ cs → viewV v = .val v) → viewL H f cs = some cs := by
    intro cs f
    induction cs with
    | nil => intro _ _; exact viewL_nil_of
    | cons s cs ih =>
      intro ha hb
      simp only [List.all_cons, Bool.and_eq_true] at ha
      obtain ⟨v, rfl⟩ := isVal_of ha.1
      refine viewL_cons_of ?_ (ih ha.2 (fun v hv => hb v (by simp [hv])))
      simp only [view, hb v (by simp)]
  have hc : ∀ v, SV.val v ∈ cons C → viewV v = .val v := by
    intro v hv
    obtain ⟨i, hi⟩ := List.mem_iff_getElem?.1 hv
    obtain ⟨c, _, g2⟩ := cons_get C i _ hi
    have h3 : i % 3 < 3 := by omega
    match i % 3, h3, g2 with
    | 0, _, g2 => simp [con3] at g2; rw [← g2]; rfl
    | 1, _, g2 => simp [con3] at g2; rw [← g2]; rfl
    | 2, _, g2 => simp [con3] at g2; rw [← g2]; rfl
  simp only [view, h1, h3, if_true, h2, hv h4 hc, rc, hn]
theorem Try.toConstraintS_ok (C : List Con) (hC : C.length ≤ 1048576) : PCall Try.prog 55 [rc C] (rc C) := (Try.toConstraintS_f C hC).pcall 2 (fun _ _ h => flat_viewC h)

theorem cg_take_succ {A B : List Con} {k : Nat} (hA : k < A.length) (hB : k < B.length) (h : A.take k = B.take k) (e : cg A k = cg B k) : A.take (k + 1) = B.take (k + 1) := by
  rw [List.take_succ_eq_append_getElem hA, List.take_succ_eq_append_getElem hB, h]
  simp [cg, hA, hB] at e
  rw [e]

set_option maxHeartbeats 1000000 in
theorem Try.eqConstraintS_ok (A B : List Con) (hA : A.length ≤ 1048576) (hB : B.length ≤ 1048576) : PCall Try.prog 58 [rc A, rc B] (.val (.bool (decide (A = B)))) := by
  refine FCall.pcall (R := fun r _ => r = .val (.bool (decide (A = B)))) ?_ 0 (by rintro r H rfl; exact view_bool)
  refine FCall.of_body Try.func58 rfl (by kernel_rfl) (by simp [Try.ntmps58]) ?_
  refine SW_of_vc Try.mixed _ _ _ (by kernel_rfl) ?_
  have lA := cons_length A
  have lB := cons_length B
  by_cases hl : A.length = B.length
  · simp (disch := omega) only [Try.ntmps58, Try.results58, go_sem, rc]
    refine LoopW.loop (fun k : Nat => ⟨ofL [(0, rc A), (1, rc B), (5, .val (.int .i64 k))], hp [] 0⟩) (fun k => k ≤ A.length ∧ A.take k = B.take k) (fun k => A.length - k) 0 ⟨by omega, by simp⟩ (Wk.of (by simp only [go_sem, ↓List.forall_mem_cons, List.not_mem_nil, false_implies, implies_true, and_true, true_and, and_self, ri_eq, Int.natCast_add, Int.cast_ofNat_Int, rc]; try simp) rfl) ?_
    rintro k ⟨hk, hkk⟩
    refine SW_of_vc Try.mixed _ _ _ (by kernel_rfl) ?_
    by_cases hlt : k < A.length
    · simp (disch := omega) only [Try.ntmps58, Try.results58, go_sem, rc, cons_load]
      refine (Try.eqConstraint_ok _ _ _ _ _ _).callDV 1 (viewL_cons_of (view_con) (viewL_cons_of (view_con) viewL_nil_of)) ?_
      by_cases he : cg A k = cg B k
      · have he' : decide (((cg A k).1, (cg A k).2.1, (cg A k).2.2) = ((cg B k).1, (cg B k).2.1, (cg B k).2.2)) = true := by simp [he]
        rw [he']
        simp (disch := omega) only [Try.ntmps58, Try.results58, go_sem]
        exact ⟨k + 1, ⟨by omega, cg_take_succ hlt (by omega) hkk he⟩, by omega, Wk.of (by simp only [go_sem, ↓List.forall_mem_cons, List.not_mem_nil, false_implies, implies_true, and_true, true_and, and_self, ri_eq, Int.natCast_add, Int.cast_ofNat_Int, rc]; try simp) rfl⟩
      · have he' : decide (((cg A k).1, (cg A k).2.1, (cg A k).2.2) = ((cg B k).1, (cg B k).2.1, (cg B k).2.2)) = false := decide_eq_false (fun e => he e)
        rw [he']
        simp (disch := omega) only [Try.ntmps58, Try.results58, go_sem]
        refine Fin.val ?_
        have : A ≠ B := fun e => he (by rw [e])
        simp [this]
    · simp (disch := omega) only [Try.ntmps58, Try.results58, go_sem, rc]
      refine Fin.val ?_
      have h1 : A.take k = A := List.take_of_length_le (by omega)
      have h2 : B.take k = B := List.take_of_length_le (by omega)
      rw [h1, h2] at hkk
      simp [hkk]
  · simp (disch := omega) only [Try.ntmps58, Try.results58, go_sem, rc]
    refine Fin.val ?_
    have : A ≠ B := fun e => hl (by rw [e])
    simp [this]

theorem Try.szConstraintS_ok (C : List Con) (l : Int) (hC : C.length ≤ 9223372036854775807) (h0 : 0 ≤ l) (h1 : l ≤ 1048576) : PCall Try.prog 52 [rc C, .val (.int .i64 l)] (.val (.int .i64 (if l < C.length then -1 else l - C.length))) := by
  refine FCall.pcall (R := fun r _ => r = .val (.int .i64 (if l < C.length then -1 else l - C.length))) ?_ 0 (by rintro r H rfl; exact view_int)
  refine FCall.of_body Try.func52 rfl (by kernel_rfl) (by simp [Try.ntmps52]) ?_
  refine SW_of_vc Try.mixed _ _ _ (by kernel_rfl) ?_
  by_cases hl : l < C.length
  · simp (disch := omega) only [Try.ntmps52, Try.results52, go_sem, rc]
    exact Fin.val rfl
  · simp (disch := omega) only [Try.ntmps52, Try.results52, go_sem, rc]
    exact Fin.val rfl
end Go.Sh

/-
  Contracts: labels by first occurrence. Of the program.
-/
namespace Go.Sh
set_option linter.unusedSimpArgs false
set_option linter.unusedVariables false
open Go Go.Proofs

def cstep (s : List Int × List Int) (x : Int) : List Int × List Int :=
  if x ∈ s.1 then (s.1, s.2 ++ [idx x s.1]) else (s.1 ++ [x], s.2 ++ [(s.1.length : Int)])
def cst (L : List Int) : List Int × List Int := L.foldl cstep ([], [])
def canon (L : List Int) : List Int := (cst L).2
theorem cst_zero : cst [] = ([], []) := rfl
theorem cst_succ {L : List Int} {k : Nat} (h : k < L.length) : cst (L.take (k + 1)) = cstep (cst (L.take k)) (L.getD k 0) := by
  rw [List.take_succ_eq_append_getElem h]
  simp only [cst, List.foldl_append, List.foldl_cons, List.foldl_nil]
  congr 1
  simp [h]
theorem cst_len : ∀ (L : List Int) (s : List Int × List Int), (L.foldl cstep s).2.length = s.2.length + L.length ∧ (L.foldl cstep s).1.length ≤ s.1.length + L.length
  | [], s => by simp
  | x :: L, s => by
    have ih := cst_len L (cstep s x)
    have h2 : (cstep s x).2.length = s.2.length + 1 := by unfold cstep; split <;> simp
    have h1 : (cstep s x).1.length ≤ s.1.length + 1 := by unfold cstep; split <;> simp
    simp only [List.foldl_cons, List.length_cons]
    omega
theorem cst_len2 (L : List Int) : (cst L).2.length = L.length := by have := (cst_len L ([], [])).1; simpa [cst] using this
theorem cst_len1 (L : List Int) : (cst L).1.length ≤ L.length := by have := (cst_len L ([], [])).2; simpa [cst] using this
theorem canon_length (L : List Int) : (canon L).length = L.length := cst_len2 L
theorem idx_lt {x : Int} {L : List Int} : idx x L < L.length ∨ L = [] := by
  unfold idx
  split
  · rename_i h
    have := List.idxOf_lt_length_of_mem h
    left; omega
  · cases L with
    | nil => right; rfl
    | cons a l => left; simp; omega
theorem idx_neg {x : Int} {L : List Int} (h : ¬ x ∈ L) : idx x L = -1 := by rw [idx, if_neg h]
theorem idx_nonneg {x : Int} {L : List Int} (h : x ∈ L) : 0 ≤ idx x L := (idx_ge x L).mpr h

def canF (L : List Int) : Nat × Nat × Nat × Nat → St
  | (0, _, _, nb) => ⟨ofL [(0, ri L), (3, .val (.slice none 0 0)), (4, .val (.slice none 0 0)), (8, ri L), (9, .val (.int .i64 L.length)), (10, .val (.int .i64 0))], hp [] nb⟩
  | (k + 1, b1, b2, nb) => ⟨ofL [(0, ri L), (3, .own b1 0 (cst (L.take (k + 1))).1.length (cst (L.take (k + 1))).1.length 1 false), (4, .own b2 0 (cst (L.take (k + 1))).2.length (cst (L.take (k + 1))).2.length 1 false), (8, ri L), (9, .val (.int .i64 L.length)), (10, .val (.int .i64 ((k + 1 : Nat) : Int)))],
      hp [(b1, ⟨ints (cst (L.take (k + 1))).1, false⟩), (b2, ⟨ints (cst (L.take (k + 1))).2, false⟩)] nb⟩

set_option maxHeartbeats 2000000 in
theorem Try.implCanon_f (L : List Int) (hL : L.length ≤ 1048576) (h0 : L ≠ []) : FCall Try.prog 98 [ri L] (FlatRes L.length 1 (ints (canon L))) := by
  have hp0 : 0 < L.length := by cases L with | nil => exact absurd rfl h0 | cons a l => simp
  refine FCall.of_body Try.func98 rfl (by kernel_rfl) (by simp [Try.ntmps98]) ?_
  refine SW_of_vc Try.mixed _ _ _ (by kernel_rfl) ?_
  simp (disch := omega) only [Try.ntmps98, Try.results98, go_sem]
  refine LoopW.loop (canF L) (fun p => p.1 ≤ L.length ∧ (0 < p.1 → p.2.1 < p.2.2.2 ∧ p.2.2.1 < p.2.2.2 ∧ p.2.1 ≠ p.2.2.1)) (fun p => L.length - p.1) (0, 0, 0, 0) ⟨by simp, by simp⟩ (Wk.of (by simp only [go_sem, ↓List.forall_mem_cons, List.not_mem_nil, false_implies, implies_true, and_true, true_and, and_self, ri_eq, Int.natCast_add, Int.cast_ofNat_Int]; try simp) rfl) ?_
  rintro ⟨k, b1, b2, nb⟩ ⟨hk, hb⟩
  simp only at hk hb
  refine SW_of_vc Try.mixed _ _ _ (by kernel_rfl) ?_
  cases k with
  | zero =>
    rw [canF]
    simp (disch := omega) only [Try.ntmps98, Try.results98, go_sem]
    refine (Try.slicesIndex_ok [] (L.getD 0 0) (by simp)).callV 0 (by simp [viewL, view, viewV, ri, ints]) ?_
    rw [idx_neg (by simp)]
    simp (disch := omega) only [Try.ntmps98, Try.results98, go_sem]
    refine ⟨(1, nb + 1, nb + 3, nb + 4), ⟨hp0, fun _ => ⟨by simp, by simp, by simp⟩⟩, by simp; omega, ?_⟩
    have e1 := cst_succ (L := L) (k := 0) hp0
    rw [List.take_zero, cst_zero] at e1
    simp only [cstep, List.not_mem_nil, if_false, List.nil_append, List.length_nil] at e1
    refine Wk.ofH (by simp only [go_sem, ↓List.forall_mem_cons, List.not_mem_nil, false_implies, implies_true, and_true, true_and, and_self, ri_eq, Int.natCast_add, Int.cast_ofNat_Int, e1]; try simp) (by simp (disch := omega) only [go_sem, ↓List.forall_mem_cons, List.not_mem_nil, false_implies, implies_true, and_true, true_and, and_self, ri_eq, Int.natCast_add, Int.cast_ofNat_Int, if_pos, if_neg, Nat.reduceAdd, List.nil_append, e1, ints_one]; try simp) (by simp [hp])
  | succ k =>
    obtain ⟨hb1, hb2, hb3⟩ := hb (by omega)
    rw [canF]
    have l1 := cst_len1 (L.take (k + 1))
    have l2 := cst_len2 (L.take (k + 1))
    have l3 : (L.take (k + 1)).length = k + 1 := by simp; omega
    have e1 := fun h => cst_succ (L := L) (k := k + 1) h
    generalize he : cst (L.take (k + 1)) = st at *
    obtain ⟨seen, out⟩ := st
    simp only at l1 l2 e1 ⊢
    by_cases hlt : k + 1 < L.length
    · have e1 := e1 hlt
      simp (disch := omega) only [Try.ntmps98, Try.results98, go_sem]
      refine (Try.slicesIndex_ok seen (L.getD (k + 1) 0) (by omega)).callV 1 (by simp only [viewL, view_own (H := hp _ _) (show (hp [(b1, ⟨ints seen, false⟩), (b2, ⟨ints out, false⟩)] nb).map b1 = some ⟨ints seen, false⟩ by simp [hp, hmap]) rfl, view, viewV]) ?_
      by_cases hm : L.getD (k + 1) 0 ∈ seen
      · have hi := idx_nonneg hm
        simp (disch := omega) only [Try.ntmps98, Try.results98, go_sem]
        simp only [cstep, if_pos hm] at e1
        refine ⟨(k + 1 + 1, b1, nb + 1, nb + 1 + 1), ⟨hlt, fun _ => ⟨by show b1 < nb + 1 + 1; omega, by show nb + 1 < nb + 1 + 1; omega, by show b1 ≠ nb + 1; omega⟩⟩, by show L.length - (k + 1 + 1) < L.length - (k + 1); omega, ?_⟩
        exact Wk.ofH (by simp only [go_sem, ↓List.forall_mem_cons, List.not_mem_nil, false_implies, implies_true, and_true, true_and, and_self, ri_eq, Int.natCast_add, Int.cast_ofNat_Int, e1, List.length_append, List.length_cons, List.length_nil, Nat.zero_add]; try simp) (by simp (disch := omega) only [go_sem, ↓List.forall_mem_cons, List.not_mem_nil, false_implies, implies_true, and_true, true_and, and_self, ri_eq, Int.natCast_add, Int.cast_ofNat_Int, if_pos, if_neg, Nat.reduceAdd, List.nil_append, e1]; try simp) (by simp [hp])
      · rw [idx_neg hm]
        simp (disch := omega) only [Try.ntmps98, Try.results98, go_sem]
        simp only [cstep, if_neg hm] at e1
        refine ⟨(k + 1 + 1, nb + 1, nb + 1 + 1 + 1, nb + 1 + 1 + 1 + 1), ⟨hlt, fun _ => ⟨by show nb + 1 < nb + 1 + 1 + 1 + 1; omega, by show nb + 1 + 1 + 1 < nb + 1 + 1 + 1 + 1; omega, by show nb + 1 ≠ nb + 1 + 1 + 1; omega⟩⟩, by show L.length - (k + 1 + 1) < L.length - (k + 1); omega, ?_⟩
        exact Wk.ofH (by simp only [go_sem, ↓List.forall_mem_cons, List.not_mem_nil, false_implies, implies_true, and_true, true_and, and_self, ri_eq, Int.natCast_add, Int.cast_ofNat_Int, e1, List.length_append, List.length_cons, List.length_nil, Nat.zero_add]; try simp) (by simp (disch := omega) only [go_sem, ↓List.forall_mem_cons, List.not_mem_nil, false_implies, implies_true, and_true, true_and, and_self, ri_eq, Int.natCast_add, Int.cast_ofNat_Int, if_pos, if_neg, Nat.reduceAdd, List.nil_append, e1]; try simp) (by simp [hp])
    · simp (disch := omega) only [Try.ntmps98, Try.results98, go_sem]
      have e2 : canon L = out := by
        have : L.take (k + 1) = L := List.take_of_length_le (by omega)
        rw [canon, ← this, he]
      have e3 : out.length = L.length := by rw [l2, l3]; omega
      rw [e2, e3]
      exact fin_ints e3.symm (by rw [hp_map, hmap_cons, if_neg (by omega), hmap_cons, if_pos rfl])

theorem Try.implCanon_nil : FCall Try.prog 98 [ri []] (fun r _ => r = .val (.slice none 0 0)) := by
  refine FCall.of_body Try.func98 rfl (by kernel_rfl) (by simp [Try.ntmps98]) ?_
  refine SW_of_vc Try.mixed _ _ _ (by kernel_rfl) ?_
  simp (disch := omega) only [Try.ntmps98, Try.results98, go_sem]
  refine LoopW.loop (fun _ : Unit => ⟨ofL [(0, ri []), (4, .val (.slice none 0 0)), (8, ri []), (9, .val (.int .i64 0)), (10, .val (.int .i64 0))], hp [] 0⟩) (fun _ => True) (fun _ => 0) () trivial (Wk.of (by simp only [go_sem, ↓List.forall_mem_cons, List.not_mem_nil, false_implies, implies_true, and_true, true_and, and_self, ri_eq, Int.natCast_add, Int.cast_ofNat_Int]; try simp) rfl) ?_
  rintro _ _
  refine SW_of_vc Try.mixed _ _ _ (by kernel_rfl) ?_
  simp (disch := omega) only [Try.ntmps98, Try.results98, go_sem]
  exact Fin.val rfl
theorem flat_view {L : List Int} {n : Nat} {r : SV} {H : Heap} (h : FlatRes n 1 (ints L) r H) : view H 2 r = some (ri L) := by
  obtain ⟨b, off, cap, ex, blk, rfl, h1, h2, h3, h4⟩ := h
  have hn : L.length = n := by
    have := congrArg List.length h2
    simp [ints] at this
    omega
  rw [Nat.mul_one] at h2 h3
  simp only [view, h1, Nat.mul_one, h3, if_true, h2, viewL_ints, ri, hn]
theorem Try.implCanon_ok (L : List Int) (hL : L.length ≤ 1048576) : PCall Try.prog 98 [ri L] (ri (canon L)) := by
  by_cases h : L = []
  · subst h
    exact Try.implCanon_nil.pcall 0 (by rintro r H rfl; exact view_nil)
  · exact (Try.implCanon_f L hL h).pcall 2 (fun _ _ h => flat_view h)
end Go.Sh

/-
  Contracts: clusterings, copied and compared; lists compared.
-/
namespace Go.Sh
set_option linter.unusedSimpArgs false
set_option linter.unusedVariables false
open Go Go.Proofs

theorem Try.szIntS_ok (L : List Int) (l : Int) (hC : L.length ≤ 9223372036854775807) (h0 : 0 ≤ l) (h1 : l ≤ 1048576) : PCall Try.prog 77 [ri L, .val (.int .i64 l)] (.val (.int .i64 (if l < L.length then -1 else l - L.length))) := by
  refine FCall.pcall (R := fun r _ => r = .val (.int .i64 (if l < L.length then -1 else l - L.length))) ?_ 0 (by rintro r H rfl; exact view_int)
  refine FCall.of_body Try.func77 rfl (by kernel_rfl) (by simp [Try.ntmps77]) ?_
  refine SW_of_vc Try.mixed _ _ _ (by kernel_rfl) ?_
  by_cases hl : l < L.length
  · simp (disch := omega) only [Try.ntmps77, Try.results77, go_sem]
    exact Fin.val rfl
  · simp (disch := omega) only [Try.ntmps77, Try.results77, go_sem]
    exact Fin.val rfl

theorem view_clu {H : Heap} {f n : Nat} {ex : Bool} {L : List Int} {a g : Int} {e : Bool} (hn : n = L.length) : view H (f + 1) (.agg [.row n ex (ints L), .val (.int .i64 a), .val (.bool e), .val (.int .i64 g)]) = some (.agg [ri L, .val (.int .i64 a), .val (.bool e), .val (.int .i64 g)]) :=
  view_agg (viewL_cons_of (view_rowL hn) (viewL_cons_of view_int (viewL_cons_of view_bool (viewL_cons_of view_int viewL_nil_of))))

theorem Try.szClustering_ok (L : List Int) (a : Int) (e : Bool) (g : Int) (l : Int) (hC : L.length ≤ 9223372036854775807) (h0 : 0 ≤ l) (h1 : l ≤ 1048576) :
    PCall Try.prog 53 [.agg [ri L, .val (.int .i64 a), .val (.bool e), .val (.int .i64 g)], .val (.int .i64 l)] (.val (.int .i64 (if l < L.length then -1 else l - L.length))) := by
  refine FCall.pcall (R := fun r _ => r = .val (.int .i64 (if l < L.length then -1 else l - L.length))) ?_ 0 (by rintro r H rfl; exact view_int)
  refine FCall.of_body Try.func53 rfl (by kernel_rfl) (by simp [Try.ntmps53]) ?_
  refine SW_of_vc Try.mixed _ _ _ (by kernel_rfl) ?_
  have hs := Try.szIntS_ok L l hC h0 h1
  by_cases hl : l < L.length
  · rw [if_pos hl] at hs
    simp (disch := omega) only [Try.ntmps53, Try.results53, go_sem]
    refine hs.callV 0 (viewL_cons_of (view_rowL (by first | rfl | simp [marks_length, canon_length] | omega)) (viewL_cons_of (view_int) viewL_nil_of)) ?_
    simp (disch := omega) only [Try.ntmps53, Try.results53, go_sem]
    exact Fin.val rfl
  · rw [if_neg hl] at hs
    simp (disch := omega) only [Try.ntmps53, Try.results53, go_sem]
    refine hs.callV 0 (viewL_cons_of (view_rowL (by first | rfl | simp [marks_length, canon_length] | omega)) (viewL_cons_of (view_int) viewL_nil_of)) ?_
    simp (disch := omega) only [Try.ntmps53, Try.results53, go_sem]
    exact Fin.val rfl

theorem Try.toClustering_ok (L : List Int) (a : Int) (e : Bool) (g : Int) (hL : L.length ≤ 1048576) :
    PCall Try.prog 56 [.agg [ri L, .val (.int .i64 a), .val (.bool e), .val (.int .i64 g)]] (.agg [ri L, .val (.int .i64 a), .val (.bool e), .val (.int .i64 g)]) := by
  refine FCall.pcall (R := fun r H => ∃ b, r = .agg [.own b 0 L.length L.length 1 false, .val (.int .i64 a), .val (.bool e), .val (.int .i64 g)] ∧ H.map b = some ⟨ints L, false⟩) ?_ 2 ?_
  · refine FCall.of_body Try.func56 rfl (by kernel_rfl) (by simp [Try.ntmps56]) ?_
    refine SW_of_vc Try.mixed _ _ _ (by kernel_rfl) ?_
    simp (disch := omega) only [Try.ntmps56, Try.results56, go_sem]
    refine (Try.toIntS_one L hL).callOne (ints_vals L) 0 (viewL_cons_of (view_rowL (by first | rfl | simp [marks_length, canon_length] | omega)) viewL_nil_of) ?_
    simp (disch := omega) only [Try.ntmps56, Try.results56, go_sem]
    refine ⟨⟨fun x => if x = 3 then some ⟨ints L, false⟩ else none, _⟩, ⟨rfl, fun x => ?_⟩, rfl, fun b blk hb => ?_, 3, rfl, rfl⟩
    · by_cases hx : x = 3
      · subst hx; right; simp [hp, hmap]
      · left; simp [hx]
    · by_cases hx : b = 3
      · subst hx; simp at hb; subst hb; exact noRowL_ints L
      · simp [hx] at hb
  · rintro r H ⟨b, rfl, hb⟩
    exact view_agg (viewL_cons_of (view_own hb rfl) (viewL_cons_of view_int (viewL_cons_of view_bool (viewL_cons_of view_int viewL_nil_of))))

def ceq (L : List Int) (a : Int) (e : Bool) (g : Int) (L' : List Int) (a' : Int) (e' : Bool) (g' : Int) : Bool := decide (L = L' ∧ a = a' ∧ e = e' ∧ g = g')

theorem Try.eqClustering_ok (L : List Int) (a : Int) (e : Bool) (g : Int) (hL : L.length ≤ 1048576) :
    PCall Try.prog 59 [.agg [ri L, .val (.int .i64 a), .val (.bool e), .val (.int .i64 g)], .agg [ri L, .val (.int .i64 a), .val (.bool e), .val (.int .i64 g)]] (.val (.bool true)) := by
  refine FCall.pcall (R := fun r _ => r = .val (.bool true)) ?_ 0 (by rintro r H rfl; exact view_bool)
  refine FCall.of_body Try.func59 rfl (by kernel_rfl) (by simp [Try.ntmps59]) ?_
  refine SW_of_vc Try.mixed _ _ _ (by kernel_rfl) ?_
  simp (disch := omega) only [Try.ntmps59, Try.results59, go_sem]
  refine (Try.eqIntS_ok L L (by omega) (by omega)).callV 0 (viewL_cons_of (view_rowL (by first | rfl | simp [marks_length, canon_length] | omega)) (viewL_cons_of (view_rowL (by first | rfl | simp [marks_length, canon_length] | omega)) viewL_nil_of)) ?_
  cases e <;> simp (disch := omega) only [Try.ntmps59, Try.results59, go_sem, beq_self_eq_true] <;> exact Fin.val rfl

end Go.Sh

/-
  Contracts: numbers by rows, copied, measured, compared.
-/
namespace Go.Sh
set_option linter.unusedSimpArgs false
set_option linter.unusedVariables false
open Go Go.Proofs

def mrow (M : List (List Int)) (i : Nat) : List Int := M.getD i []
def mat (M : List (List Int)) (i k : Nat) : Int := (mrow M i).getD k 0
theorem rows_length (M : List (List Int)) : (rows M).length = M.length := by simp [rows]
theorem rows_get {M : List (List Int)} {k : Nat} (h : k < M.length) : (rows M)[k]? = some (.row (mrow M k).length false (ints (mrow M k))) := by
  simp [rows, mrow, h, ri]
theorem rr_eq (M : List (List Int)) : rr M = .row M.length false (rows M) := rfl

def outer (M : List (List Int)) (k : Nat) : List SV := (List.range M.length).map fun i => if i < k then .own (i + 1) 0 (mrow M i).length (mrow M i).length 1 false else .val (.slice none 0 0)
theorem outer_length (M : List (List Int)) (k : Nat) : (outer M k).length = M.length := by simp [outer]
theorem outer_zero (M : List (List Int)) : outer M 0 = List.replicate M.length (.val (.slice none 0 0)) := by
  apply List.ext_getElem <;> simp [outer]
theorem outer_set {M : List (List Int)} {k : Nat} (h : k < M.length) : (outer M k).set k (.own (k + 1) 0 (mrow M k).length (mrow M k).length 1 false) = outer M (k + 1) := by
  apply List.ext_getElem?
  intro i
  simp only [outer, List.getElem?_set, List.getElem?_map, List.length_map, List.length_range]
  by_cases hi : i < M.length
  · rw [List.getElem?_range hi]
    by_cases hk : k = i
    · subst hk
      simp [h]
    · by_cases h1 : i < k
      · simp [hk, h1, show i < k + 1 by omega]
      · simp [hk, h1, show ¬ i < k + 1 by omega]
  · have : (List.range M.length)[i]? = none := by simp; omega
    rw [this]
    have hk : ¬ k = i := by omega
    simp [hk]
def HS (M : List (List Int)) (k : Nat) : Heap := ⟨fun x => if x = 0 then some ⟨outer M k, true⟩ else if x ≤ k then some ⟨ints (mrow M (x - 1)), false⟩ else none, k + 1⟩
def HSp (M : List (List Int)) (k : Nat) : Heap := (HS M k).push ⟨ints (mrow M k), false⟩
theorem HS_nb (M : List (List Int)) (k : Nat) : (HS M k).nb = k + 1 := rfl
theorem HSp_nb (M : List (List Int)) (k : Nat) : (HSp M k).nb = k + 2 := rfl
theorem HS_map (M : List (List Int)) (k : Nat) : (HS M k).map 0 = some ⟨outer M k, true⟩ := rfl
theorem HSp_map (M : List (List Int)) (k : Nat) : (HSp M k).map 0 = some ⟨outer M k, true⟩ := by
  simp only [HSp, Heap.push, HS]
  rw [if_neg (by omega)]
  rfl
theorem HSp_set {M : List (List Int)} {k : Nat} : (HSp M k).set 0 (some ⟨outer M (k + 1), true⟩) = HS M (k + 1) := by
  refine Heap.ext' (fun x => ?_) rfl
  simp only [HSp, HS, Heap.push, Heap.set]
  by_cases h0 : x = 0
  · simp [h0]
  · by_cases h1 : x = k + 1
    · simp [h1]
    · by_cases h2 : x ≤ k
      · simp [h0, h1, h2, show x ≤ k + 1 by omega]
      · simp [h0, h1, h2, show ¬ x ≤ k + 1 by omega]
theorem HS_zero (M : List (List Int)) : HS M 0 = hp [(0, ⟨List.replicate M.length (.val (.slice none 0 0)), true⟩)] 1 := by
  refine Heap.ext' (fun x => ?_) rfl
  simp only [HS, hp, hmap, outer_zero]
  by_cases h0 : x = 0
  · simp [h0]
  · simp [h0]

theorem outer_nr (M : List (List Int)) (k : Nat) : noRowL (outer M k) = true := by
  unfold outer
  generalize List.range M.length = l
  induction l with
  | nil => rfl
  | cons a l ih =>
    simp only [List.map_cons, noRowL, ih, Bool.and_true]
    split <;> rfl
theorem HS_nr (M : List (List Int)) (k : Nat) : nrHeap (HS M k) := by
  intro b blk hb
  simp only [HS] at hb
  split at hb
  · simp at hb; subst hb; exact outer_nr M k
  · split at hb
    · simp at hb; subst hb; exact noRowL_ints _
    · simp at hb
theorem viewL_fn {H : Heap} {f : Nat} {α : Type} {g h : α → SV} : ∀ (l : List α), (∀ a ∈ l, view H f (g a) = some (h a)) → viewL H f (l.map g) = some (l.map h)
  | [], _ => viewL_nil_of
  | a :: l, hv => viewL_cons_of (hv a (by simp)) (viewL_fn l (fun b hb => hv b (by simp [hb])))
theorem HS_view (M : List (List Int)) : view (HS M M.length) 3 (.own 0 0 M.length M.length 1 true) = some (rr M) := by
  simp only [view, HS_map, Nat.mul_one, List.drop_zero, outer_length, Nat.zero_add, Nat.le_refl, if_true]
  have e : (outer M M.length).take M.length = (List.range M.length).map fun i => SV.own (i + 1) 0 (mrow M i).length (mrow M i).length 1 false := by
    rw [List.take_of_length_le (by rw [outer_length]; exact Nat.le_refl _), outer]
    refine List.map_congr_left (fun i hi => ?_)
    have : i < M.length := by simpa using hi
    rw [if_pos this]
  rw [e, viewL_fn (h := fun i => ri (mrow M i)) _ (fun i hi => ?_)]
  · have : (List.range M.length).map (fun i => ri (mrow M i)) = rows M := by
      apply List.ext_getElem?
      intro i
      simp only [rows, List.getElem?_map]
      by_cases hi : i < M.length
      · rw [List.getElem?_range hi]; simp [mrow, hi]
      · have : (List.range M.length)[i]? = none := by simp; omega
        rw [this, List.getElem?_eq_none (by omega : M.length ≤ i)]; rfl
    rw [this]; rfl
  · have hi' : i < M.length := by simpa using hi
    refine view_own (e2 := false) ?_ rfl
    simp only [HS]
    rw [if_neg (by omega), if_pos (by omega)]
    simp

set_option maxHeartbeats 1000000 in
theorem Try.toIntSS_f (M : List (List Int)) (hM : M.length ≤ 1048576) (hR : ∀ i, i < M.length → (mrow M i).length ≤ 1048576) : FCall Try.prog 26 [rr M] (fun r H => r = .own 0 0 M.length M.length 1 true ∧ H = HS M M.length) := by
  refine FCall.of_body Try.func26 rfl (by kernel_rfl) (by simp [Try.ntmps26]) ?_
  refine SW_of_vc Try.mixed _ _ _ (by kernel_rfl) ?_
  simp (disch := omega) only [Try.ntmps26, Try.results26, go_sem, rr_eq]
  refine LoopW.loop (fun k : Nat => ⟨ofL [(0, rr M), (3, .own 0 0 M.length M.length 1 true), (4, .val (.int .i64 k))], HS M k⟩) (fun k => k ≤ M.length) (fun k => M.length - k) 0 (by omega)
    (Wk.of (by simp only [go_sem, ↓List.forall_mem_cons, List.not_mem_nil, false_implies, implies_true, and_true, true_and, and_self, ri_eq, Int.natCast_add, Int.cast_ofNat_Int, rr_eq]; try simp) (by rw [HS_zero])) ?_
  intro k hk
  have ho := outer_length M k
  refine SW_of_vc Try.mixed _ _ _ (by kernel_rfl) ?_
  by_cases hlt : k < M.length
  · have hos := outer_set hlt
    simp (disch := omega) only [Try.ntmps26, Try.results26, go_sem, rr_eq, rows_get]
    refine (Try.toIntS_one (mrow M k) (hR k hlt)).callOne (ints_vals _) 0 (viewL_cons_of (view_rowL (by first | rfl | simp [marks_length, canon_length] | omega)) viewL_nil_of) ?_
    have e : (HS M k).push ⟨ints (mrow M k), false⟩ = HSp M k := rfl
    rw [e, HS_nb]
    simp (disch := omega) only [Try.ntmps26, Try.results26, go_sem, rr_eq, HSp_map, ho, hos, HSp_set]
    exact ⟨k + 1, by omega, by omega, Wk.of (by simp only [go_sem, ↓List.forall_mem_cons, List.not_mem_nil, false_implies, implies_true, and_true, true_and, and_self, ri_eq, Int.natCast_add, Int.cast_ofNat_Int, rr_eq]; try simp) rfl⟩
  · obtain rfl : k = M.length := by omega
    simp (disch := omega) only [Try.ntmps26, Try.results26, go_sem, rr_eq]
    exact ⟨HS M M.length, ⟨rfl, fun _ => .inr rfl⟩, rfl, HS_nr M _, rfl, rfl⟩
theorem Try.toIntSS_ok (M : List (List Int)) (hM : M.length ≤ 1048576) (hR : ∀ i, i < M.length → (mrow M i).length ≤ 1048576) : PCall Try.prog 26 [rr M] (rr M) :=
  (Try.toIntSS_f M hM hR).pcall 3 (by rintro r H ⟨rfl, rfl⟩; exact HS_view M)

def szM (M : List (List Int)) (l : Int) : Int := l - M.length - (M.map fun r => (r.length : Int)).sum
def msum (M : List (List Int)) (k : Nat) : Int := ((M.take k).map fun r => (r.length : Int)).sum
theorem msum_succ {M : List (List Int)} {k : Nat} (h : k < M.length) : msum M (k + 1) = msum M k + (mrow M k).length := by
  have e : mrow M k = M[k] := by simp [mrow, h]
  rw [msum, List.take_succ_eq_append_getElem h, List.map_append, List.sum_append, e]
  simp only [List.map_cons, List.map_nil, List.sum_cons, List.sum_nil, Int.add_zero]
  rfl
theorem msum_nonneg (M : List (List Int)) (k : Nat) : 0 ≤ msum M k := by
  unfold msum
  induction M.take k with
  | nil => simp
  | cons a l ih => simp only [List.map_cons, List.sum_cons]; omega
theorem msum_mono {M : List (List Int)} : ∀ {k j : Nat}, k ≤ j → j ≤ M.length → msum M k ≤ msum M j := by
  intro k j h
  induction h with
  | refl => intro _; exact Int.le_refl _
  | step h ih =>
    intro hj
    have := ih (by omega)
    rw [msum_succ (by omega)]
    omega

set_option maxHeartbeats 1000000 in
theorem Try.szIntSS_ok (M : List (List Int)) (l : Int) (hM : M.length ≤ 9223372036854775807) (hR : ∀ i, i < M.length → (mrow M i).length ≤ 9223372036854775807) (h0 : 0 ≤ l) (h1 : l ≤ 1048576) :
    PCall Try.prog 24 [rr M, .val (.int .i64 l)] (.val (.int .i64 (if l < M.length + msum M M.length then -1 else l - M.length - msum M M.length))) := by
  have hnn := msum_nonneg M M.length
  refine FCall.pcall (R := fun r _ => r = .val (.int .i64 (if l < M.length + msum M M.length then -1 else l - M.length - msum M M.length))) ?_ 0 (by rintro r H rfl; exact view_int)
  refine FCall.of_body Try.func24 rfl (by kernel_rfl) (by simp [Try.ntmps24]) ?_
  refine SW_of_vc Try.mixed _ _ _ (by kernel_rfl) ?_
  by_cases hl : l < M.length
  · rw [if_pos (by omega)]
    simp (disch := omega) only [Try.ntmps24, Try.results24, go_sem, rr_eq]
    exact Fin.val rfl
  · simp (disch := omega) only [Try.ntmps24, Try.results24, go_sem, rr_eq]
    refine LoopW.loop (fun k : Nat => ⟨ofL [(0, rr M), (1, .val (.int .i64 (l - M.length - msum M k))), (5, .val (.int .i64 k))], hp [] 0⟩) (fun k => k ≤ M.length ∧ 0 ≤ l - M.length - msum M k) (fun k => M.length - k) 0 ⟨by omega, by simp [msum]; omega⟩
      (Wk.of (by simp only [go_sem, ↓List.forall_mem_cons, List.not_mem_nil, false_implies, implies_true, and_true, true_and, and_self, ri_eq, Int.natCast_add, Int.cast_ofNat_Int, rr_eq, msum, List.take_zero, List.map_nil, List.sum_nil, Int.sub_zero]; try simp) rfl) ?_
    rintro k ⟨hk, hkk⟩
    have hn := msum_nonneg M k
    refine SW_of_vc Try.mixed _ _ _ (by kernel_rfl) ?_
    by_cases hlt : k < M.length
    · have hs := Try.szIntS_ok (mrow M k) (l - M.length - msum M k) (hR k hlt) hkk (by omega)
      have he := msum_succ hlt
      have hmo := msum_mono (M := M) (k := k + 1) (j := M.length) (by omega) (by omega)
      by_cases hx : l - M.length - msum M k < (mrow M k).length
      · rw [if_pos hx] at hs
        simp (disch := omega) only [Try.ntmps24, Try.results24, go_sem, rr_eq, rows_get]
        refine hs.callV 0 (viewL_cons_of (view_rowL (by first | rfl | simp [marks_length, canon_length] | omega)) (viewL_cons_of (view_int) viewL_nil_of)) ?_
        rw [if_pos (by omega)]
        simp (disch := omega) only [Try.ntmps24, Try.results24, go_sem, rr_eq]
        exact Fin.val rfl
      · rw [if_neg hx] at hs
        simp (disch := omega) only [Try.ntmps24, Try.results24, go_sem, rr_eq, rows_get]
        refine hs.callV 0 (viewL_cons_of (view_rowL (by first | rfl | simp [marks_length, canon_length] | omega)) (viewL_cons_of (view_int) viewL_nil_of)) ?_
        simp (disch := omega) only [Try.ntmps24, Try.results24, go_sem, rr_eq]
        have e2 : l - (M.length : Int) - msum M k - ((mrow M k).length : Int) = l - M.length - msum M (k + 1) := by omega
        exact ⟨k + 1, ⟨by omega, by omega⟩, by omega, Wk.of (by simp only [go_sem, ↓List.forall_mem_cons, List.not_mem_nil, false_implies, implies_true, and_true, true_and, and_self, ri_eq, Int.natCast_add, Int.cast_ofNat_Int, rr_eq, e2]; try simp) rfl⟩
    · obtain rfl : k = M.length := by omega
      simp (disch := omega) only [Try.ntmps24, Try.results24, go_sem, rr_eq]
      exact Fin.val rfl

theorem mtake_succ {A B : List (List Int)} {k : Nat} (hA : k < A.length) (hB : k < B.length) (h : A.take k = B.take k) (e : mrow A k = mrow B k) : A.take (k + 1) = B.take (k + 1) := by
  rw [List.take_succ_eq_append_getElem hA, List.take_succ_eq_append_getElem hB, h]
  simp [mrow, hA, hB] at e
  rw [e]

set_option maxHeartbeats 1000000 in
theorem Try.eqIntSS_ok (A B : List (List Int)) (hA : A.length ≤ 1048576) (hB : B.length ≤ 1048576) (rA : ∀ i, i < A.length → (mrow A i).length ≤ 1048576) (rB : ∀ i, i < B.length → (mrow B i).length ≤ 1048576) : PCall Try.prog 29 [rr A, rr B] (.val (.bool (decide (A = B)))) := by
  refine FCall.pcall (R := fun r _ => r = .val (.bool (decide (A = B)))) ?_ 0 (by rintro r H rfl; exact view_bool)
  refine FCall.of_body Try.func29 rfl (by kernel_rfl) (by simp [Try.ntmps29]) ?_
  refine SW_of_vc Try.mixed _ _ _ (by kernel_rfl) ?_
  by_cases hl : A.length = B.length
  · simp (disch := omega) only [Try.ntmps29, Try.results29, go_sem, rr_eq]
    refine LoopW.loop (fun k : Nat => ⟨ofL [(0, rr A), (1, rr B), (5, .val (.int .i64 k))], hp [] 0⟩) (fun k => k ≤ A.length ∧ A.take k = B.take k) (fun k => A.length - k) 0 ⟨by omega, by simp⟩ (Wk.of (by simp only [go_sem, ↓List.forall_mem_cons, List.not_mem_nil, false_implies, implies_true, and_true, true_and, and_self, ri_eq, Int.natCast_add, Int.cast_ofNat_Int, rr_eq]; try simp) rfl) ?_
    rintro k ⟨hk, hkk⟩
    refine SW_of_vc Try.mixed _ _ _ (by kernel_rfl) ?_
    by_cases hlt : k < A.length
    · have hq := Try.eqIntS_ok (mrow A k) (mrow B k) (by have := rA k hlt; omega) (by have := rB k (by omega); omega)
      by_cases he : mrow A k = mrow B k
      · have he' : (mrow A k == mrow B k) = true := by simp [he]
        rw [he'] at hq
        simp (disch := omega) only [Try.ntmps29, Try.results29, go_sem, rr_eq, rows_get]
        refine hq.callDV 0 (viewL_cons_of (view_rowL (by first | rfl | simp [marks_length, canon_length] | omega)) (viewL_cons_of (view_rowL (by first | rfl | simp [marks_length, canon_length] | omega)) viewL_nil_of)) ?_
        simp (disch := omega) only [Try.ntmps29, Try.results29, go_sem, rr_eq]
        exact ⟨k + 1, ⟨by omega, mtake_succ hlt (by omega) hkk he⟩, by omega, Wk.of (by simp only [go_sem, ↓List.forall_mem_cons, List.not_mem_nil, false_implies, implies_true, and_true, true_and, and_self, ri_eq, Int.natCast_add, Int.cast_ofNat_Int, rr_eq]; try simp) rfl⟩
      · have he' : (mrow A k == mrow B k) = false := by simpa using he
        rw [he'] at hq
        simp (disch := omega) only [Try.ntmps29, Try.results29, go_sem, rr_eq, rows_get]
        refine hq.callDV 0 (viewL_cons_of (view_rowL (by first | rfl | simp [marks_length, canon_length] | omega)) (viewL_cons_of (view_rowL (by first | rfl | simp [marks_length, canon_length] | omega)) viewL_nil_of)) ?_
        simp (disch := omega) only [Try.ntmps29, Try.results29, go_sem, rr_eq]
        refine Fin.val ?_
        have : A ≠ B := fun e => he (by rw [e])
        simp [this]
    · simp (disch := omega) only [Try.ntmps29, Try.results29, go_sem, rr_eq]
      refine Fin.val ?_
      have h1 : A.take k = A := List.take_of_length_le (by omega)
      have h2 : B.take k = B := List.take_of_length_le (by omega)
      rw [h1, h2] at hkk
      simp [hkk]
  · simp (disch := omega) only [Try.ntmps29, Try.results29, go_sem, rr_eq]
    refine Fin.val ?_
    have : A ≠ B := fun e => hl (by rw [e])
    simp [this]
end Go.Sh

/-
  Contracts: is it a weight matrix? Of the reference and of the program.
-/
namespace Go.Sh
set_option linter.unusedSimpArgs false
set_option linter.unusedVariables false
open Go Go.Proofs

def WM (M : List (List Int)) : Prop := (1 ≤ M.length ∧ M.length ≤ 8) ∧ (∀ i, i < M.length → (mrow M i).length = M.length) ∧ (∀ i k, i < M.length → k < M.length → (-1000 ≤ mat M i k ∧ mat M i k ≤ 1000) ∧ mat M i k = mat M k i) ∧ ∀ i, i < M.length → mat M i i = 0
open Classical in
noncomputable def isWM (M : List (List Int)) : Bool := decide (WM M)
open Classical in
theorem isWM_f {M : List (List Int)} (h : ¬ WM M) : isWM M = false := decide_eq_false h
open Classical in
theorem isWM_t {M : List (List Int)} (h : WM M) : isWM M = true := decide_eq_true h

open Classical in
theorem WM_of {M : List (List Int)} (h : isWM M = true) : WM M := by
  unfold isWM at h
  exact of_decide_eq_true h
theorem inR_not {x a b : Int} (h : inR x a b = false) : ¬ (a ≤ x ∧ x ≤ b) := by
  rintro ⟨h1, h2⟩
  rw [inR_tt h1 h2] at h
  cases h
theorem ints_get' {L : List Int} {k n : Nat} (hl : L.length = n) (h : k < n) : (ints L)[k]? = some (.val (.int .i64 (L.getD k 0))) := ints_get (by omega)

set_option maxHeartbeats 4000000 in
theorem Try.specIsWM_ok (M : List (List Int)) (hM : M.length ≤ 1048576) (hR : ∀ i, i < M.length → (mrow M i).length ≤ 1048576) : PCall Try.prog 21 [rr M] (.val (.bool (isWM M))) := by
  refine FCall.pcall (R := fun r _ => r = .val (.bool (isWM M))) ?_ 0 (by rintro r H rfl; exact view_bool)
  refine FCall.of_body Try.func21 rfl (by kernel_rfl) (by simp [Try.ntmps21]) ?_
  refine SW_of_vc Try.mixed _ _ _ (by kernel_rfl) ?_
  simp (disch := omega) only [Try.ntmps21, Try.results21, go_sem, rr_eq]
  refine LoopW.loop (fun i : Nat => ⟨ofL [(0, rr M), (3, .val (.int .i64 i))], hp [] 0⟩) (fun i => i ≤ M.length ∧ ∀ x, x < i → (mrow M x).length = M.length) (fun i => M.length - i) 0 ⟨by omega, by intro x h; omega⟩ (Wk.of (by simp only [go_sem, ↓List.forall_mem_cons, List.not_mem_nil, false_implies, implies_true, and_true, true_and, and_self, ri_eq, Int.natCast_add, Int.cast_ofNat_Int, rr_eq]; try simp) rfl) ?_
  rintro i ⟨hi, hii⟩
  refine SW_of_vc Try.mixed _ _ _ (by kernel_rfl) ?_
  by_cases hlt : i < M.length
  · by_cases hr : (mrow M i).length = M.length
    · simp (disch := omega) only [Try.ntmps21, Try.results21, go_sem, rr_eq, rows_get, hr]
      refine ⟨i + 1, ⟨by omega, fun x hx => ?_⟩, by omega, Wk.of (by simp only [go_sem, ↓List.forall_mem_cons, List.not_mem_nil, false_implies, implies_true, and_true, true_and, and_self, ri_eq, Int.natCast_add, Int.cast_ofNat_Int, rr_eq]; try simp) rfl⟩
      rcases Nat.lt_succ_iff_lt_or_eq.mp hx with h | rfl
      · exact hii x h
      · exact hr
    · have hri := hR i hlt
      simp (disch := omega) only [Try.ntmps21, Try.results21, go_sem, rr_eq, rows_get]
      exact Fin.val (by rw [isWM_f (fun h => hr (h.2.1 i hlt))])
  · obtain rfl : i = M.length := by omega
    simp (disch := omega) only [Try.ntmps21, Try.results21, go_sem, rr_eq]
    refine LoopW.loop (fun i : Nat => ⟨ofL [(0, rr M), (4, .val (.int .i64 i))], hp [] 0⟩) (fun i => i ≤ M.length ∧ ∀ x k, x < i → k < M.length → (-1000 ≤ mat M x k ∧ mat M x k ≤ 1000) ∧ mat M x k = mat M k x ∧ (x = k → mat M x k = 0)) (fun i => M.length - i) 0 ⟨by omega, by intro x k h; omega⟩ (Wk.of (by simp only [go_sem, ↓List.forall_mem_cons, List.not_mem_nil, false_implies, implies_true, and_true, true_and, and_self, ri_eq, Int.natCast_add, Int.cast_ofNat_Int, rr_eq]; try simp) rfl) ?_
    rintro i ⟨hi1, hi2⟩
    refine SW_of_vc Try.mixed _ _ _ (by kernel_rfl) ?_
    by_cases hlt1 : i < M.length
    · simp (disch := omega) only [Try.ntmps21, Try.results21, go_sem, rr_eq]
      refine LoopW.loop (fun k : Nat => ⟨ofL [(0, rr M), (4, .val (.int .i64 i)), (5, .val (.int .i64 k))], hp [] 0⟩) (fun k => k ≤ M.length ∧ ∀ y, y < k → (-1000 ≤ mat M i y ∧ mat M i y ≤ 1000) ∧ mat M i y = mat M y i ∧ (i = y → mat M i y = 0)) (fun k => M.length - k) 0 ⟨by omega, by intro y h; omega⟩ (Wk.of (by simp only [go_sem, ↓List.forall_mem_cons, List.not_mem_nil, false_implies, implies_true, and_true, true_and, and_self, ri_eq, Int.natCast_add, Int.cast_ofNat_Int, rr_eq]; try simp) rfl) ?_
      rintro k ⟨hk1, hk2⟩
      refine SW_of_vc Try.mixed _ _ _ (by kernel_rfl) ?_
      by_cases hlt2 : k < M.length
      · have hri := hii i hlt1
        have hrk := hii k hlt2
        have g1 : (ints (mrow M i))[k]? = some (.val (.int .i64 (mat M i k))) := ints_get' hri hlt2
        have g2 : (ints (mrow M k))[i]? = some (.val (.int .i64 (mat M k i))) := ints_get' hrk hlt1
        obtain ⟨a, ha⟩ : ∃ a, mat M i k = a := ⟨_, rfl⟩
        obtain ⟨b, hb⟩ : ∃ b, mat M k i = b := ⟨_, rfl⟩
        rw [ha] at g1
        rw [hb] at g2
        have w := Try.l1In_ok a (-1000) 1000
        rcases Bool.eq_false_or_eq_true (inR a (-1000) 1000) with h1 | h1
        · obtain ⟨r1, r2⟩ := inR_of h1
          rw [h1] at w
          by_cases h2 : a = b
          · by_cases h3 : i = k
            · by_cases h4 : a = 0
              · simp (disch := omega) only [Try.ntmps21, Try.results21, go_sem, rr_eq, rows_get, hri, hrk, g1, g2]
                refine w.callDV 0 (viewL_cons_of (view_int) (viewL_cons_of (view_int) (viewL_cons_of (view_int) viewL_nil_of))) ?_
                simp (disch := omega) only [Try.ntmps21, Try.results21, go_sem, rr_eq, rows_get, hri, hrk, g1, g2]
                refine ⟨k + 1, ⟨by omega, fun y hy => ?_⟩, by omega, Wk.of (by simp only [go_sem, ↓List.forall_mem_cons, List.not_mem_nil, false_implies, implies_true, and_true, true_and, and_self, ri_eq, Int.natCast_add, Int.cast_ofNat_Int, rr_eq]; try simp) rfl⟩
                rcases Nat.lt_succ_iff_lt_or_eq.mp hy with h | rfl
                · exact hk2 y h
                · rw [ha, hb]; exact ⟨⟨r1, r2⟩, h2, fun _ => h4⟩
              · simp (disch := omega) only [Try.ntmps21, Try.results21, go_sem, rr_eq, rows_get, hri, hrk, g1, g2]
                refine w.callDV 0 (viewL_cons_of (view_int) (viewL_cons_of (view_int) (viewL_cons_of (view_int) viewL_nil_of))) ?_
                simp (disch := omega) only [Try.ntmps21, Try.results21, go_sem, rr_eq, rows_get, hri, hrk, g1, g2]
                exact Fin.val (by rw [isWM_f (fun h => h4 (by have := h.2.2.2 i hlt1; rw [← ha, ← h3]; exact this))])
            · simp (disch := omega) only [Try.ntmps21, Try.results21, go_sem, rr_eq, rows_get, hri, hrk, g1, g2]
              refine w.callDV 0 (viewL_cons_of (view_int) (viewL_cons_of (view_int) (viewL_cons_of (view_int) viewL_nil_of))) ?_
              simp (disch := omega) only [Try.ntmps21, Try.results21, go_sem, rr_eq, rows_get, hri, hrk, g1, g2]
              refine ⟨k + 1, ⟨by omega, fun y hy => ?_⟩, by omega, Wk.of (by simp only [go_sem, ↓List.forall_mem_cons, List.not_mem_nil, false_implies, implies_true, and_true, true_and, and_self, ri_eq, Int.natCast_add, Int.cast_ofNat_Int, rr_eq]; try simp) rfl⟩
              rcases Nat.lt_succ_iff_lt_or_eq.mp hy with h | rfl
              · exact hk2 y h
              · rw [ha, hb]; exact ⟨⟨r1, r2⟩, h2, fun e => absurd e h3⟩
          · simp (disch := omega) only [Try.ntmps21, Try.results21, go_sem, rr_eq, rows_get, hri, hrk, g1, g2]
            refine w.callDV 0 (viewL_cons_of (view_int) (viewL_cons_of (view_int) (viewL_cons_of (view_int) viewL_nil_of))) ?_
            simp (disch := omega) only [Try.ntmps21, Try.results21, go_sem, rr_eq, rows_get, hri, hrk, g1, g2]
            exact Fin.val (by rw [isWM_f (fun h => h2 (by have := (h.2.2.1 i k hlt1 hlt2).2; rw [ha, hb] at this; exact this))])
        · rw [h1] at w
          simp (disch := omega) only [Try.ntmps21, Try.results21, go_sem, rr_eq, rows_get, hri, hrk, g1, g2]
          refine w.callDV 0 (viewL_cons_of (view_int) (viewL_cons_of (view_int) (viewL_cons_of (view_int) viewL_nil_of))) ?_
          simp (disch := omega) only [Try.ntmps21, Try.results21, go_sem, rr_eq]
          exact Fin.val (by rw [isWM_f (fun h => inR_not h1 (by have := (h.2.2.1 i k hlt1 hlt2).1; rw [ha] at this; exact this))])
      · obtain rfl : k = M.length := by omega
        simp (disch := omega) only [Try.ntmps21, Try.results21, go_sem, rr_eq]
        refine ⟨i + 1, ⟨by omega, fun x y hx hy => ?_⟩, by omega, Wk.of (by simp only [go_sem, ↓List.forall_mem_cons, List.not_mem_nil, false_implies, implies_true, and_true, true_and, and_self, ri_eq, Int.natCast_add, Int.cast_ofNat_Int, rr_eq]; try simp) rfl⟩
        rcases Nat.lt_succ_iff_lt_or_eq.mp hx with h | rfl
        · exact hi2 x y h hy
        · exact hk2 y hy
    · obtain rfl : i = M.length := by omega
      have w := Try.l1In_ok (M.length : Int) 1 8
      rcases Bool.eq_false_or_eq_true (inR (M.length : Int) 1 8) with h1 | h1
      · obtain ⟨r1, r2⟩ := inR_of h1
        rw [h1] at w
        simp (disch := omega) only [Try.ntmps21, Try.results21, go_sem, rr_eq]
        refine w.callV 0 (viewL_cons_of (view_int) (viewL_cons_of (view_int) (viewL_cons_of (view_int) viewL_nil_of))) ?_
        simp (disch := omega) only [Try.ntmps21, Try.results21, go_sem, rr_eq]
        exact Fin.val (by rw [isWM_t ⟨⟨by omega, by omega⟩, hii, fun x y hx hy => ⟨(hi2 x y hx hy).1, (hi2 x y hx hy).2.1⟩, fun x hx => (hi2 x x hx hx).2.2 rfl⟩])
      · rw [h1] at w
        simp (disch := omega) only [Try.ntmps21, Try.results21, go_sem, rr_eq]
        refine w.callV 0 (viewL_cons_of (view_int) (viewL_cons_of (view_int) (viewL_cons_of (view_int) viewL_nil_of))) ?_
        simp (disch := omega) only [Try.ntmps21, Try.results21, go_sem, rr_eq]
        exact Fin.val (by rw [isWM_f (fun h => inR_not h1 (by have := h.1; omega))])

set_option maxHeartbeats 4000000 in
theorem Try.implIsWM_ok (M : List (List Int)) (hM : M.length ≤ 1048576) (hR : ∀ i, i < M.length → (mrow M i).length ≤ 1048576) : PCall Try.prog 63 [rr M] (.val (.bool (isWM M))) := by
  refine FCall.pcall (R := fun r _ => r = .val (.bool (isWM M))) ?_ 0 (by rintro r H rfl; exact view_bool)
  refine FCall.of_body Try.func63 rfl (by kernel_rfl) (by simp [Try.ntmps63]) ?_
  refine SW_of_vc Try.mixed _ _ _ (by kernel_rfl) ?_
  have w := Try.within_ok (M.length : Int) 1 8
  rcases Bool.eq_false_or_eq_true (inR (M.length : Int) 1 8) with hn | hn
  · obtain ⟨n1, n2⟩ := inR_of hn
    rw [hn] at w
    simp (disch := omega) only [Try.ntmps63, Try.results63, go_sem, rr_eq]
    refine w.callV 0 (viewL_cons_of (view_int) (viewL_cons_of (view_int) (viewL_cons_of (view_int) viewL_nil_of))) ?_
    simp (disch := omega) only [Try.ntmps63, Try.results63, go_sem, rr_eq]
    refine LoopW.loop (fun i : Nat => ⟨ofL [(0, rr M), (11, rr M), (12, .val (.int .i64 M.length)), (13, .val (.int .i64 i))], hp [] 0⟩) (fun i => i ≤ M.length ∧ ∀ x, x < i → (mrow M x).length = M.length ∧ mat M x x = 0 ∧ ∀ y, y < x → (-1000 ≤ mat M x y ∧ mat M x y ≤ 1000) ∧ mat M y x = mat M x y) (fun i => M.length - i) 0 ⟨by omega, by intro x h; omega⟩ (Wk.of (by simp only [go_sem, ↓List.forall_mem_cons, List.not_mem_nil, false_implies, implies_true, and_true, true_and, and_self, ri_eq, Int.natCast_add, Int.cast_ofNat_Int, rr_eq]; try simp) rfl) ?_
    rintro i ⟨hi, hii⟩
    refine SW_of_vc Try.mixed _ _ _ (by kernel_rfl) ?_
    by_cases hlt : i < M.length
    · have hrm := hR i hlt
      by_cases hr : (mrow M i).length = M.length
      · have g0 : (ints (mrow M i))[i]? = some (.val (.int .i64 (mat M i i))) := ints_get' hr hlt
        by_cases hd : mat M i i = 0
        · rw [hd] at g0
          simp (disch := omega) only [Try.ntmps63, Try.results63, go_sem, rr_eq, rows_get, hr, g0]
          have hlt' : ((mrow M i).take i).length = i := by simp; omega
          refine LoopW.loop (fun k : Nat => ⟨ofL [(0, rr M), (3, .val (.int .i64 i)), (11, rr M), (12, .val (.int .i64 M.length)), (13, .val (.int .i64 i)), (32, .row i false ((ints (mrow M i)).take i)), (33, .val (.int .i64 i)), (34, .val (.int .i64 k))], hp [] 0⟩)
            (fun k => k ≤ i ∧ ∀ y, y < k → (-1000 ≤ mat M i y ∧ mat M i y ≤ 1000) ∧ mat M y i = mat M i y) (fun k => i - k) 0 ⟨by omega, by intro y h; omega⟩ (Wk.of (by simp only [go_sem, ↓List.forall_mem_cons, List.not_mem_nil, false_implies, implies_true, and_true, true_and, and_self, ri_eq, Int.natCast_add, Int.cast_ofNat_Int, rr_eq]; try simp) rfl) ?_
          rintro k ⟨hk, hkk⟩
          refine SW_of_vc Try.mixed _ _ _ (by kernel_rfl) ?_
          by_cases hki : k < i
          · have hrk := (hii k hki).1
            have g1 : ((ints (mrow M i)).take i)[k]? = some (.val (.int .i64 (mat M i k))) := by
              rw [List.getElem?_take, if_pos hki]; exact ints_get' hr (by omega)
            have g2 : (ints (mrow M k))[i]? = some (.val (.int .i64 (mat M k i))) := ints_get' hrk hlt
            obtain ⟨a, ha⟩ : ∃ a, mat M i k = a := ⟨_, rfl⟩
            obtain ⟨b, hb⟩ : ∃ b, mat M k i = b := ⟨_, rfl⟩
            rw [ha] at g1
            rw [hb] at g2
            have w2 := Try.within_ok a (-1000) 1000
            rcases Bool.eq_false_or_eq_true (inR a (-1000) 1000) with h1 | h1
            · obtain ⟨r1, r2⟩ := inR_of h1
              rw [h1] at w2
              by_cases h2 : b = a
              · simp (disch := omega) only [Try.ntmps63, Try.results63, go_sem, rr_eq, rows_get, hrk, g1, g2]
                refine w2.callV 0 (viewL_cons_of (view_int) (viewL_cons_of (view_int) (viewL_cons_of (view_int) viewL_nil_of))) ?_
                simp (disch := omega) only [Try.ntmps63, Try.results63, go_sem, rr_eq, rows_get, hrk, g1, g2]
                refine ⟨k + 1, ⟨by omega, fun y hy => ?_⟩, by omega, Wk.of (by simp only [go_sem, ↓List.forall_mem_cons, List.not_mem_nil, false_implies, implies_true, and_true, true_and, and_self, ri_eq, Int.natCast_add, Int.cast_ofNat_Int, rr_eq]; try simp) rfl⟩
                rcases Nat.lt_succ_iff_lt_or_eq.mp hy with h | rfl
                · exact hkk y h
                · rw [ha, hb]; exact ⟨⟨r1, r2⟩, h2⟩
              · simp (disch := omega) only [Try.ntmps63, Try.results63, go_sem, rr_eq, rows_get, hrk, g1, g2]
                refine w2.callV 0 (viewL_cons_of (view_int) (viewL_cons_of (view_int) (viewL_cons_of (view_int) viewL_nil_of))) ?_
                simp (disch := omega) only [Try.ntmps63, Try.results63, go_sem, rr_eq, rows_get, hrk, g1, g2]
                exact Fin.val (by rw [isWM_f (fun h => h2 (by have := (h.2.2.1 k i (by omega) hlt).2; rw [ha, hb] at this; exact this))])
            · rw [h1] at w2
              simp (disch := omega) only [Try.ntmps63, Try.results63, go_sem, rr_eq, rows_get, hrk, g1, g2]
              refine w2.callV 0 (viewL_cons_of (view_int) (viewL_cons_of (view_int) (viewL_cons_of (view_int) viewL_nil_of))) ?_
              simp (disch := omega) only [Try.ntmps63, Try.results63, go_sem, rr_eq]
              exact Fin.val (by rw [isWM_f (fun h => inR_not h1 (by have := (h.2.2.1 i k hlt (by omega)).1; rw [ha] at this; exact this))])
          · obtain rfl : k = i := by omega
            simp (disch := omega) only [Try.ntmps63, Try.results63, go_sem, rr_eq]
            refine ⟨k + 1, ⟨by omega, fun x hx => ?_⟩, by omega, Wk.of (by simp only [go_sem, ↓List.forall_mem_cons, List.not_mem_nil, false_implies, implies_true, and_true, true_and, and_self, ri_eq, Int.natCast_add, Int.cast_ofNat_Int, rr_eq]; try simp) rfl⟩
            rcases Nat.lt_succ_iff_lt_or_eq.mp hx with h | rfl
            · exact hii x h
            · exact ⟨hr, hd, hkk⟩
        · obtain ⟨d, hd'⟩ : ∃ d, mat M i i = d := ⟨_, rfl⟩
          rw [hd'] at g0 hd
          simp (disch := omega) only [Try.ntmps63, Try.results63, go_sem, rr_eq, rows_get, hr, g0]
          exact Fin.val (by rw [isWM_f (fun h => hd (by rw [← hd']; exact h.2.2.2 i hlt))])
      · simp (disch := omega) only [Try.ntmps63, Try.results63, go_sem, rr_eq, rows_get]
        exact Fin.val (by rw [isWM_f (fun h => hr (h.2.1 i hlt))])
    · obtain rfl : i = M.length := by omega
      simp (disch := omega) only [Try.ntmps63, Try.results63, go_sem, rr_eq]
      refine Fin.val ?_
      rw [isWM_t ⟨⟨by omega, by omega⟩, fun x hx => (hii x hx).1, fun x y hx hy => ?_, fun x hx => (hii x hx).2.1⟩]
      rcases Nat.lt_trichotomy y x with h | h | h
      · obtain ⟨q1, q2⟩ := (hii x hx).2.2 y h
        exact ⟨q1, q2.symm⟩
      · subst h
        have := (hii y hy).2.1
        exact ⟨by omega, rfl⟩
      · obtain ⟨q1, q2⟩ := (hii y hy).2.2 x h
        exact ⟨by omega, q2⟩
  · rw [hn] at w
    simp (disch := omega) only [Try.ntmps63, Try.results63, go_sem, rr_eq]
    refine w.callV 0 (viewL_cons_of (view_int) (viewL_cons_of (view_int) (viewL_cons_of (view_int) viewL_nil_of))) ?_
    simp (disch := omega) only [Try.ntmps63, Try.results63, go_sem, rr_eq]
    exact Fin.val (by rw [isWM_f (fun h => inR_not hn (by have := h.1; omega))])
end Go.Sh

/-
  What comes in as a matrix: its measures.
-/
namespace Go.Sh
set_option linter.unusedSimpArgs false
set_option linter.unusedVariables false
open Go Go.Proofs

theorem mrow_le {M : List (List Int)} {i : Nat} (h : i < M.length) : ((mrow M i).length : Int) ≤ msum M M.length := by
  have h1 := msum_succ h
  have h2 := msum_nonneg M i
  have h3 := msum_mono (M := M) (k := i + 1) (j := M.length) (by omega) (Nat.le_refl _)
  omega
theorem mrow_max {M : List (List Int)} (hw : (∀ l ∈ M, (∀ n ∈ l, i64R n) ∧ l.length ≤ maxLen) ∧ M.length ≤ maxLen) : M.length ≤ 9223372036854775807 ∧ ∀ i, i < M.length → (mrow M i).length ≤ 9223372036854775807 := by
  refine ⟨hw.2, fun i hi => ?_⟩
  have := (hw.1 M[i] (List.getElem_mem hi)).2
  have e : mrow M i = M[i] := by simp [mrow, hi]
  rw [e]
  exact this
end Go.Sh

/-
  Contracts: what a partition costs. Of the reference and of the program; the law.
-/
namespace Go.Sh
set_option linter.unusedSimpArgs false
set_option linter.unusedVariables false
open Go Go.Proofs

def ct (M : List (List Int)) (L : List Int) (i k : Nat) : Int := if L.getD i 0 = L.getD k 0 then max 0 (-mat M i k) else max 0 (mat M i k)
def cr (M : List (List Int)) (L : List Int) (i : Nat) : Nat → Int
  | 0 => 0
  | k + 1 => cr M L i k + ct M L i k
def cc (M : List (List Int)) (L : List Int) : Nat → Int
  | 0 => 0
  | i + 1 => cc M L i + cr M L i i
theorem ct_b {M : List (List Int)} {L : List Int} (h : WM M) {i k : Nat} (hi : i < M.length) (hk : k < M.length) : 0 ≤ ct M L i k ∧ ct M L i k ≤ 1000 := by
  have := (h.2.2.1 i k hi hk).1
  unfold ct
  split <;> omega
theorem cr_b {M : List (List Int)} {L : List Int} (h : WM M) {i : Nat} (hi : i < M.length) : ∀ k, k ≤ M.length → 0 ≤ cr M L i k ∧ cr M L i k ≤ 1000 * k
  | 0, _ => by simp [cr]
  | k + 1, hk => by
    have h1 := cr_b h hi (L := L) k (by omega)
    have h2 := ct_b (L := L) h hi (k := k) (by omega)
    rw [cr]; omega
theorem cc_b {M : List (List Int)} {L : List Int} (h : WM M) : ∀ i, i ≤ M.length → 0 ≤ cc M L i ∧ cc M L i ≤ 8000 * i
  | 0, _ => by simp [cc]
  | i + 1, hi => by
    have h1 := cc_b h (L := L) i (by omega)
    have h2 := cr_b (L := L) h (i := i) (by omega) i (by omega)
    have := h.1
    rw [cc]; omega
noncomputable def pcost (M : List (List Int)) (L : List Int) : Int := if isWM M = true ∧ isPart L = true ∧ L.length = M.length then cc M L L.length else -1
set_option maxHeartbeats 4000000 in
set_option maxRecDepth 100000 in
theorem Try.implCost_ok (M : List (List Int)) (L : List Int) (hw : WM M) (hl : L.length = M.length) : PCall Try.prog 99 [rr M, ri L] (.val (.int .i64 (cc M L L.length))) := by
  have hM8 := hw.1.2
  have c1 := cc_b (L := L) hw
  refine FCall.pcall (R := fun r _ => r = .val (.int .i64 (cc M L L.length))) ?_ 0 (by rintro r H rfl; exact view_int)
  refine FCall.of_body Try.func99 rfl (by kernel_rfl) (by simp [Try.ntmps99]) ?_
  refine SW_of_vc Try.mixed _ _ _ (by kernel_rfl) ?_
  simp (disch := omega) only [Try.ntmps99, Try.results99, go_sem, rr_eq]
  refine LoopW.loop (fun i : Nat => ⟨ofL [(0, rr M), (1, ri L), (5, .val (.int .i64 (cc M L i))), (8, ri L), (9, .val (.int .i64 L.length)), (10, .val (.int .i64 i))], hp [] 0⟩) (fun i => i ≤ L.length) (fun i => L.length - i) 0 (by omega) (Wk.of (by simp only [go_sem, ↓List.forall_mem_cons, List.not_mem_nil, false_implies, implies_true, and_true, true_and, and_self, ri_eq, Int.natCast_add, Int.cast_ofNat_Int, rr_eq, cc]; try simp) rfl) ?_
  intro i hi
  refine SW_of_vc Try.mixed _ _ _ (by kernel_rfl) ?_
  by_cases hlt : i < L.length
  · simp (disch := omega) only [Try.ntmps99, Try.results99, go_sem, rr_eq]
    refine LoopW.loop (fun k : Nat => ⟨ofL [(0, rr M), (1, ri L), (5, .val (.int .i64 (cc M L i + cr M L i k))), (6, .val (.int .i64 i)), (8, ri L), (9, .val (.int .i64 L.length)), (10, .val (.int .i64 i)), (13, .val (.int .i64 i)), (14, .val (.int .i64 k))], hp [] 0⟩) (fun k => k ≤ i) (fun k => i - k) 0 (by omega) (Wk.of (by simp only [go_sem, ↓List.forall_mem_cons, List.not_mem_nil, false_implies, implies_true, and_true, true_and, and_self, ri_eq, Int.natCast_add, Int.cast_ofNat_Int, rr_eq, cr, Int.add_zero]; try simp) rfl) ?_
    intro k hk
    refine SW_of_vc Try.mixed _ _ _ (by kernel_rfl) ?_
    by_cases hki : k < i
    · skip
      have hri := hw.2.1 i (by omega)
      have c2 := c1 i (by omega)
      have c3 := cr_b (L := L) hw (i := i) (by omega)
      have c4 := c3 k (by omega)
      have c5 := (hw.2.2.1 i k (by omega) (by omega)).1
      have g1 : (ints (mrow M i))[k]? = some (.val (.int .i64 (mat M i k))) := ints_get' hri (by omega)
      have hct : cr M L i (k + 1) = cr M L i k + ct M L i k := rfl
      unfold ct at hct
      by_cases he : L.getD i 0 = L.getD k 0
      · rw [if_pos he] at hct
        generalize mat M i k = a at *
        by_cases p1 : 0 < a
        · have e : cc M L i + cr M L i (k + 1) = cc M L i + cr M L i k + 0 := by omega
          simp (disch := omega) only [Try.ntmps99, Try.results99, go_sem, rr_eq, rows_get, hri, g1, he]
          exact ⟨k + 1, by omega, by omega, Wk.of (by simp only [go_sem, ↓List.forall_mem_cons, List.not_mem_nil, false_implies, implies_true, and_true, true_and, and_self, ri_eq, Int.natCast_add, Int.cast_ofNat_Int, rr_eq, e, Int.add_zero, Int.sub_eq_add_neg]; try simp) rfl⟩
        · by_cases p2 : a < 0
          · have e : cc M L i + cr M L i (k + 1) = cc M L i + cr M L i k + -a := by omega
            simp (disch := omega) only [Try.ntmps99, Try.results99, go_sem, rr_eq, rows_get, hri, g1, he]
            exact ⟨k + 1, by omega, by omega, Wk.of (by simp only [go_sem, ↓List.forall_mem_cons, List.not_mem_nil, false_implies, implies_true, and_true, true_and, and_self, ri_eq, Int.natCast_add, Int.cast_ofNat_Int, rr_eq, e, Int.add_zero, Int.sub_eq_add_neg]; try simp) rfl⟩
          · have e : cc M L i + cr M L i (k + 1) = cc M L i + cr M L i k + 0 := by omega
            simp (disch := omega) only [Try.ntmps99, Try.results99, go_sem, rr_eq, rows_get, hri, g1, he]
            exact ⟨k + 1, by omega, by omega, Wk.of (by simp only [go_sem, ↓List.forall_mem_cons, List.not_mem_nil, false_implies, implies_true, and_true, true_and, and_self, ri_eq, Int.natCast_add, Int.cast_ofNat_Int, rr_eq, e, Int.add_zero, Int.sub_eq_add_neg]; try simp) rfl⟩
      · rw [if_neg he] at hct
        generalize mat M i k = a at *
        by_cases p1 : 0 < a
        · have e : cc M L i + cr M L i (k + 1) = cc M L i + cr M L i k + a := by omega
          simp (disch := omega) only [Try.ntmps99, Try.results99, go_sem, rr_eq, rows_get, hri, g1]
          exact ⟨k + 1, by omega, by omega, Wk.of (by simp only [go_sem, ↓List.forall_mem_cons, List.not_mem_nil, false_implies, implies_true, and_true, true_and, and_self, ri_eq, Int.natCast_add, Int.cast_ofNat_Int, rr_eq, e, Int.add_zero, Int.sub_eq_add_neg]; try simp) rfl⟩
        · by_cases p2 : a < 0
          · have e : cc M L i + cr M L i (k + 1) = cc M L i + cr M L i k + 0 := by omega
            simp (disch := omega) only [Try.ntmps99, Try.results99, go_sem, rr_eq, rows_get, hri, g1]
            exact ⟨k + 1, by omega, by omega, Wk.of (by simp only [go_sem, ↓List.forall_mem_cons, List.not_mem_nil, false_implies, implies_true, and_true, true_and, and_self, ri_eq, Int.natCast_add, Int.cast_ofNat_Int, rr_eq, e, Int.add_zero, Int.sub_eq_add_neg]; try simp) rfl⟩
          · have e : cc M L i + cr M L i (k + 1) = cc M L i + cr M L i k + 0 := by omega
            simp (disch := omega) only [Try.ntmps99, Try.results99, go_sem, rr_eq, rows_get, hri, g1]
            exact ⟨k + 1, by omega, by omega, Wk.of (by simp only [go_sem, ↓List.forall_mem_cons, List.not_mem_nil, false_implies, implies_true, and_true, true_and, and_self, ri_eq, Int.natCast_add, Int.cast_ofNat_Int, rr_eq, e, Int.add_zero, Int.sub_eq_add_neg]; try simp) rfl⟩
    · obtain rfl : k = i := by omega
      have ec : cc M L (k + 1) = cc M L k + cr M L k k := rfl
      simp (disch := omega) only [Try.ntmps99, Try.results99, go_sem, rr_eq]
      exact ⟨k + 1, by omega, by omega, Wk.of (by simp only [go_sem, ↓List.forall_mem_cons, List.not_mem_nil, false_implies, implies_true, and_true, true_and, and_self, ri_eq, Int.natCast_add, Int.cast_ofNat_Int, rr_eq, ec]; try simp) rfl⟩
  · obtain rfl : i = L.length := by omega
    simp (disch := omega) only [Try.ntmps99, Try.results99, go_sem, rr_eq]
    exact Fin.val rfl

set_option maxHeartbeats 4000000 in
set_option maxRecDepth 100000 in
theorem Try.specCost_ok (M : List (List Int)) (L : List Int) (hw : WM M) (hl : L.length = M.length) : PCall Try.prog 75 [rr M, ri L] (.val (.int .i64 (cc M L L.length))) := by
  have hM8 := hw.1.2
  have c1 := cc_b (L := L) hw
  refine FCall.pcall (R := fun r _ => r = .val (.int .i64 (cc M L L.length))) ?_ 0 (by rintro r H rfl; exact view_int)
  refine FCall.of_body Try.func75 rfl (by kernel_rfl) (by simp [Try.ntmps75]) ?_
  refine SW_of_vc Try.mixed _ _ _ (by kernel_rfl) ?_
  simp (disch := omega) only [Try.ntmps75, Try.results75, go_sem, rr_eq]
  refine LoopW.loop (fun i : Nat => ⟨ofL [(0, rr M), (1, ri L), (5, .val (.int .i64 (cc M L i))), (6, .val (.int .i64 i))], hp [] 0⟩) (fun i => i ≤ L.length) (fun i => L.length - i) 0 (by omega) (Wk.of (by simp only [go_sem, ↓List.forall_mem_cons, List.not_mem_nil, false_implies, implies_true, and_true, true_and, and_self, ri_eq, Int.natCast_add, Int.cast_ofNat_Int, rr_eq, cc]; try simp) rfl) ?_
  intro i hi
  refine SW_of_vc Try.mixed _ _ _ (by kernel_rfl) ?_
  by_cases hlt : i < L.length
  · simp (disch := omega) only [Try.ntmps75, Try.results75, go_sem, rr_eq]
    refine LoopW.loop (fun k : Nat => ⟨ofL [(0, rr M), (1, ri L), (5, .val (.int .i64 (cc M L i + cr M L i k))), (6, .val (.int .i64 i)), (7, .val (.int .i64 k))], hp [] 0⟩) (fun k => k ≤ i) (fun k => i - k) 0 (by omega) (Wk.of (by simp only [go_sem, ↓List.forall_mem_cons, List.not_mem_nil, false_implies, implies_true, and_true, true_and, and_self, ri_eq, Int.natCast_add, Int.cast_ofNat_Int, rr_eq, cr, Int.add_zero]; try simp) rfl) ?_
    intro k hk
    refine SW_of_vc Try.mixed _ _ _ (by kernel_rfl) ?_
    by_cases hki : k < i
    · skip
      have hri := hw.2.1 i (by omega)
      have c2 := c1 i (by omega)
      have c3 := cr_b (L := L) hw (i := i) (by omega)
      have c4 := c3 k (by omega)
      have c5 := (hw.2.2.1 i k (by omega) (by omega)).1
      have g1 : (ints (mrow M i))[k]? = some (.val (.int .i64 (mat M i k))) := ints_get' hri (by omega)
      have hct : cr M L i (k + 1) = cr M L i k + ct M L i k := rfl
      unfold ct at hct
      by_cases he : L.getD i 0 = L.getD k 0
      · rw [if_pos he] at hct
        generalize mat M i k = a at *
        by_cases p1 : 0 < a
        · have e : cc M L i + cr M L i (k + 1) = cc M L i + cr M L i k + 0 := by omega
          simp (disch := omega) only [Try.ntmps75, Try.results75, go_sem, rr_eq, rows_get, hri, g1, he]
          exact ⟨k + 1, by omega, by omega, Wk.of (by simp only [go_sem, ↓List.forall_mem_cons, List.not_mem_nil, false_implies, implies_true, and_true, true_and, and_self, ri_eq, Int.natCast_add, Int.cast_ofNat_Int, rr_eq, e, Int.add_zero, Int.sub_eq_add_neg]; try simp) rfl⟩
        · by_cases p2 : a < 0
          · have e : cc M L i + cr M L i (k + 1) = cc M L i + cr M L i k + -a := by omega
            simp (disch := omega) only [Try.ntmps75, Try.results75, go_sem, rr_eq, rows_get, hri, g1, he]
            exact ⟨k + 1, by omega, by omega, Wk.of (by simp only [go_sem, ↓List.forall_mem_cons, List.not_mem_nil, false_implies, implies_true, and_true, true_and, and_self, ri_eq, Int.natCast_add, Int.cast_ofNat_Int, rr_eq, e, Int.add_zero, Int.sub_eq_add_neg]; try simp) rfl⟩
          · have e : cc M L i + cr M L i (k + 1) = cc M L i + cr M L i k + 0 := by omega
            simp (disch := omega) only [Try.ntmps75, Try.results75, go_sem, rr_eq, rows_get, hri, g1, he]
            exact ⟨k + 1, by omega, by omega, Wk.of (by simp only [go_sem, ↓List.forall_mem_cons, List.not_mem_nil, false_implies, implies_true, and_true, true_and, and_self, ri_eq, Int.natCast_add, Int.cast_ofNat_Int, rr_eq, e, Int.add_zero, Int.sub_eq_add_neg]; try simp) rfl⟩
      · rw [if_neg he] at hct
        generalize mat M i k = a at *
        by_cases p1 : 0 < a
        · have e : cc M L i + cr M L i (k + 1) = cc M L i + cr M L i k + a := by omega
          simp (disch := omega) only [Try.ntmps75, Try.results75, go_sem, rr_eq, rows_get, hri, g1]
          exact ⟨k + 1, by omega, by omega, Wk.of (by simp only [go_sem, ↓List.forall_mem_cons, List.not_mem_nil, false_implies, implies_true, and_true, true_and, and_self, ri_eq, Int.natCast_add, Int.cast_ofNat_Int, rr_eq, e, Int.add_zero, Int.sub_eq_add_neg]; try simp) rfl⟩
        · by_cases p2 : a < 0
          · have e : cc M L i + cr M L i (k + 1) = cc M L i + cr M L i k + 0 := by omega
            simp (disch := omega) only [Try.ntmps75, Try.results75, go_sem, rr_eq, rows_get, hri, g1]
            exact ⟨k + 1, by omega, by omega, Wk.of (by simp only [go_sem, ↓List.forall_mem_cons, List.not_mem_nil, false_implies, implies_true, and_true, true_and, and_self, ri_eq, Int.natCast_add, Int.cast_ofNat_Int, rr_eq, e, Int.add_zero, Int.sub_eq_add_neg]; try simp) rfl⟩
          · have e : cc M L i + cr M L i (k + 1) = cc M L i + cr M L i k + 0 := by omega
            simp (disch := omega) only [Try.ntmps75, Try.results75, go_sem, rr_eq, rows_get, hri, g1]
            exact ⟨k + 1, by omega, by omega, Wk.of (by simp only [go_sem, ↓List.forall_mem_cons, List.not_mem_nil, false_implies, implies_true, and_true, true_and, and_self, ri_eq, Int.natCast_add, Int.cast_ofNat_Int, rr_eq, e, Int.add_zero, Int.sub_eq_add_neg]; try simp) rfl⟩
    · obtain rfl : k = i := by omega
      have ec : cc M L (k + 1) = cc M L k + cr M L k k := rfl
      simp (disch := omega) only [Try.ntmps75, Try.results75, go_sem, rr_eq]
      exact ⟨k + 1, by omega, by omega, Wk.of (by simp only [go_sem, ↓List.forall_mem_cons, List.not_mem_nil, false_implies, implies_true, and_true, true_and, and_self, ri_eq, Int.natCast_add, Int.cast_ofNat_Int, rr_eq, ec]; try simp) rfl⟩
  · obtain rfl : i = L.length := by omega
    simp (disch := omega) only [Try.ntmps75, Try.results75, go_sem, rr_eq]
    exact Fin.val rfl

set_option maxHeartbeats 1000000 in
theorem Try.implPartitionCost_ok (M : List (List Int)) (L : List Int) (hM : M.length ≤ 1048576) (hR : ∀ i, i < M.length → (mrow M i).length ≤ 1048576) (hL : L.length ≤ 1048576) : PCall Try.prog 51 [rr M, ri L] (.val (.int .i64 (pcost M L))) := by
  refine FCall.pcall (R := fun r _ => r = .val (.int .i64 (pcost M L))) ?_ 0 (by rintro r H rfl; exact view_int)
  refine FCall.of_body Try.func51 rfl (by kernel_rfl) (by simp [Try.ntmps51]) ?_
  refine SW_of_vc Try.mixed _ _ _ (by kernel_rfl) ?_
  have w1 := Try.implIsWM_ok M hM hR
  have w2 := Try.implIsPartition_ok L hL
  rcases Bool.eq_false_or_eq_true (isWM M) with h1 | h1
  · rw [h1] at w1
    have hw := WM_of h1
    rcases Bool.eq_false_or_eq_true (isPart L) with h2 | h2
    · rw [h2] at w2
      by_cases h3 : L.length = M.length
      · have hp : pcost M L = cc M L L.length := if_pos ⟨h1, h2, h3⟩
        rw [hp]
        have w3 := Try.implCost_ok M L hw h3
        simp (disch := omega) only [Try.ntmps51, Try.results51, go_sem, rr_eq]
        refine w1.callV 0 (viewL_cons_of (view_row) viewL_nil_of) ?_
        simp (disch := omega) only [Try.ntmps51, Try.results51, go_sem, rr_eq]
        refine w2.callV 0 (viewL_cons_of (view_rowL (by first | rfl | simp [marks_length, canon_length] | omega)) viewL_nil_of) ?_
        simp (disch := omega) only [Try.ntmps51, Try.results51, go_sem, rr_eq]
        refine w3.callV 0 (viewL_cons_of (view_row) (viewL_cons_of (view_rowL (by first | rfl | simp [marks_length, canon_length] | omega)) viewL_nil_of)) ?_
        simp (disch := omega) only [Try.ntmps51, Try.results51, go_sem, rr_eq]
        exact Fin.val rfl
      · have hp : pcost M L = -1 := if_neg (fun h => h3 h.2.2)
        rw [hp]
        simp (disch := omega) only [Try.ntmps51, Try.results51, go_sem, rr_eq]
        refine w1.callV 0 (viewL_cons_of (view_row) viewL_nil_of) ?_
        simp (disch := omega) only [Try.ntmps51, Try.results51, go_sem, rr_eq]
        refine w2.callV 0 (viewL_cons_of (view_rowL (by first | rfl | simp [marks_length, canon_length] | omega)) viewL_nil_of) ?_
        simp (disch := omega) only [Try.ntmps51, Try.results51, go_sem, rr_eq]
        exact Fin.val rfl
    · rw [h2] at w2
      have hp : pcost M L = -1 := if_neg (fun h => by rw [h2] at h; cases h.2.1)
      rw [hp]
      simp (disch := omega) only [Try.ntmps51, Try.results51, go_sem, rr_eq]
      refine w1.callV 0 (viewL_cons_of (view_row) viewL_nil_of) ?_
      simp (disch := omega) only [Try.ntmps51, Try.results51, go_sem, rr_eq]
      refine w2.callV 0 (viewL_cons_of (view_rowL (by first | rfl | simp [marks_length, canon_length] | omega)) viewL_nil_of) ?_
      simp (disch := omega) only [Try.ntmps51, Try.results51, go_sem, rr_eq]
      exact Fin.val rfl
  · rw [h1] at w1
    have hp : pcost M L = -1 := if_neg (fun h => by rw [h1] at h; cases h.1)
    rw [hp]
    simp (disch := omega) only [Try.ntmps51, Try.results51, go_sem, rr_eq]
    refine w1.callV 0 (viewL_cons_of (view_row) viewL_nil_of) ?_
    simp (disch := omega) only [Try.ntmps51, Try.results51, go_sem, rr_eq]
    exact Fin.val rfl

set_option maxHeartbeats 1000000 in
theorem Try.specPartitionCost_ok (M : List (List Int)) (L : List Int) (hM : M.length ≤ 1048576) (hR : ∀ i, i < M.length → (mrow M i).length ≤ 1048576) (hL : L.length ≤ 1048576) : PCall Try.prog 16 [rr M, ri L] (.val (.int .i64 (pcost M L))) := by
  refine FCall.pcall (R := fun r _ => r = .val (.int .i64 (pcost M L))) ?_ 0 (by rintro r H rfl; exact view_int)
  refine FCall.of_body Try.func16 rfl (by kernel_rfl) (by simp [Try.ntmps16]) ?_
  refine SW_of_vc Try.mixed _ _ _ (by kernel_rfl) ?_
  have w1 := Try.specIsWM_ok M hM hR
  have w2 := Try.specIsPartition_ok L hL
  rcases Bool.eq_false_or_eq_true (isWM M) with h1 | h1
  · rw [h1] at w1
    have hw := WM_of h1
    rcases Bool.eq_false_or_eq_true (isPart L) with h2 | h2
    · rw [h2] at w2
      by_cases h3 : L.length = M.length
      · have hp : pcost M L = cc M L L.length := if_pos ⟨h1, h2, h3⟩
        rw [hp]
        have w3 := Try.specCost_ok M L hw h3
        simp (disch := omega) only [Try.ntmps16, Try.results16, go_sem, rr_eq]
        refine w1.callV 0 (viewL_cons_of (view_row) viewL_nil_of) ?_
        simp (disch := omega) only [Try.ntmps16, Try.results16, go_sem, rr_eq]
        refine w2.callV 0 (viewL_cons_of (view_rowL (by first | rfl | simp [marks_length, canon_length] | omega)) viewL_nil_of) ?_
        simp (disch := omega) only [Try.ntmps16, Try.results16, go_sem, rr_eq]
        refine w3.callV 0 (viewL_cons_of (view_row) (viewL_cons_of (view_rowL (by first | rfl | simp [marks_length, canon_length] | omega)) viewL_nil_of)) ?_
        simp (disch := omega) only [Try.ntmps16, Try.results16, go_sem, rr_eq]
        exact Fin.val rfl
      · have hp : pcost M L = -1 := if_neg (fun h => h3 h.2.2)
        rw [hp]
        simp (disch := omega) only [Try.ntmps16, Try.results16, go_sem, rr_eq]
        refine w1.callV 0 (viewL_cons_of (view_row) viewL_nil_of) ?_
        simp (disch := omega) only [Try.ntmps16, Try.results16, go_sem, rr_eq]
        refine w2.callV 0 (viewL_cons_of (view_rowL (by first | rfl | simp [marks_length, canon_length] | omega)) viewL_nil_of) ?_
        simp (disch := omega) only [Try.ntmps16, Try.results16, go_sem, rr_eq]
        exact Fin.val rfl
    · rw [h2] at w2
      have hp : pcost M L = -1 := if_neg (fun h => by rw [h2] at h; cases h.2.1)
      rw [hp]
      simp (disch := omega) only [Try.ntmps16, Try.results16, go_sem, rr_eq]
      refine w1.callV 0 (viewL_cons_of (view_row) viewL_nil_of) ?_
      simp (disch := omega) only [Try.ntmps16, Try.results16, go_sem, rr_eq]
      refine w2.callV 0 (viewL_cons_of (view_rowL (by first | rfl | simp [marks_length, canon_length] | omega)) viewL_nil_of) ?_
      simp (disch := omega) only [Try.ntmps16, Try.results16, go_sem, rr_eq]
      exact Fin.val rfl
  · rw [h1] at w1
    have hp : pcost M L = -1 := if_neg (fun h => by rw [h1] at h; cases h.1)
    rw [hp]
    simp (disch := omega) only [Try.ntmps16, Try.results16, go_sem, rr_eq]
    refine w1.callV 0 (viewL_cons_of (view_row) viewL_nil_of) ?_
    simp (disch := omega) only [Try.ntmps16, Try.results16, go_sem, rr_eq]
    exact Fin.val rfl

end Go.Sh

/-
  Contracts: are these constraints? Of the reference and of the program.
-/
namespace Go.Sh
set_option linter.unusedSimpArgs false
set_option linter.unusedVariables false
open Go Go.Proofs

def fidx (pr : Con → Bool) (C : List Con) : Int := match C.findIdx? pr with | some i => (i : Int) | none => -1
theorem fidx_none {pr : Con → Bool} {C : List Con} (h : ∀ i, i < C.length → pr (cg C i) = false) : fidx pr C = -1 := by
  have : C.findIdx? pr = none := by
    rw [List.findIdx?_eq_none_iff]
    intro x hx
    obtain ⟨i, hi, e⟩ := List.getElem_of_mem hx
    have := h i hi
    simpa [cg, hi, e] using this
  rw [fidx, this]
theorem fidx_some {pr : Con → Bool} {C : List Con} {k : Nat} (hk : k < C.length) (h : ∀ i, i < k → pr (cg C i) = false) (e : pr (cg C k) = true) : fidx pr C = k := by
  have : C.findIdx? pr = some k := by
    rw [List.findIdx?_eq_some_iff_getElem]
    refine ⟨hk, by simpa [cg, hk] using e, fun j hj => ?_⟩
    have hj' : j < C.length := by omega
    have := h j hj
    simp [cg, hj'] at this
    simp [this]
  rw [fidx, this]
theorem fidx_ge (pr : Con → Bool) (C : List Con) : (0 ≤ fidx pr C) ↔ C.any pr = true := by
  rw [fidx]
  cases h : C.findIdx? pr with
  | none =>
    rw [List.findIdx?_eq_none_iff] at h
    constructor
    · intro e; simp at e
    · intro e
      obtain ⟨x, hx, h1⟩ := List.any_eq_true.1 e
      rw [h x hx] at h1; cases h1
  | some i =>
    rw [List.findIdx?_eq_some_iff_getElem] at h
    obtain ⟨hi, h1, _⟩ := h
    simp only [Int.natCast_nonneg, true_iff, List.any_eq_true]
    exact ⟨C[i], List.getElem_mem hi, h1⟩

set_option maxHeartbeats 1000000 in
theorem Try.indexFuncM_ok (f : FuncId) (cap : List SV) (C : List Con) (pr : Con → Bool) (hC : C.length ≤ 1048576) (hcap : ∀ H fu, viewL H fu cap = some cap)
    (hf : ∀ k, k < C.length → PCall Try.prog f (.agg [.val (.int .i64 (cg C k).1), .val (.int .i64 (cg C k).2.1), .val (.bool (cg C k).2.2)] :: cap) (.val (.bool (pr ((cg C k).1, (cg C k).2.1, (cg C k).2.2))))) :
    PCall Try.prog 162 [rc C, .clos (.func f) [] cap] (.val (.int .i64 (fidx pr C))) := by
  refine FCall.pcall (R := fun r _ => r = .val (.int .i64 (fidx pr C))) ?_ 0 (by rintro r H rfl; exact view_int)
  refine FCall.of_body Try.func162 rfl (by kernel_rfl) (by simp [Try.ntmps162]) ?_
  refine SW_of_vc Try.mixed _ _ _ (by kernel_rfl) ?_
  have lC := cons_length C
  simp (disch := omega) only [Try.ntmps162, Try.results162, go_sem, rc]
  refine LoopW.loop (fun k : Nat => ⟨ofL [(0, rc C), (1, .clos (.func f) [] cap), (7, .val (.int .i64 C.length)), (8, .val (.int .i64 k))], hp [] 0⟩) (fun k => k ≤ C.length ∧ ∀ i, i < k → pr (cg C i) = false) (fun k => C.length - k) 0 ⟨by omega, by simp⟩ (Wk.of (by simp only [go_sem, ↓List.forall_mem_cons, List.not_mem_nil, false_implies, implies_true, and_true, true_and, and_self, ri_eq, Int.natCast_add, Int.cast_ofNat_Int, rc]; try simp) rfl) ?_
  rintro k ⟨hk, hkk⟩
  refine SW_of_vc Try.mixed _ _ _ (by kernel_rfl) ?_
  by_cases hlt : k < C.length
  · simp (disch := omega) only [Try.ntmps162, Try.results162, go_sem, rc, cons_load]
    refine (hf k hlt).callV 1 (viewL_cons_of view_con (hcap _ _)) ?_
    cases he : pr ((cg C k).1, (cg C k).2.1, (cg C k).2.2) with
    | true =>
      simp (disch := omega) only [Try.ntmps162, Try.results162, go_sem, rc]
      exact Fin.val (by rw [fidx_some hlt hkk he])
    | false =>
      simp (disch := omega) only [Try.ntmps162, Try.results162, go_sem, rc]
      refine ⟨k + 1, ⟨by omega, fun i hi => ?_⟩, by omega, Wk.of (by simp only [go_sem, ↓List.forall_mem_cons, List.not_mem_nil, false_implies, implies_true, and_true, true_and, and_self, ri_eq, Int.natCast_add, Int.cast_ofNat_Int, rc]; try simp) rfl⟩
      rcases Nat.lt_succ_iff_lt_or_eq.mp hi with h | rfl
      · exact hkk i h
      · exact he
  · simp (disch := omega) only [Try.ntmps162, Try.results162, go_sem, rc]
    exact Fin.val (by rw [fidx_none (fun i hi => hkk i (by omega))])

theorem Try.containsFuncM_ok (f : FuncId) (cap : List SV) (C : List Con) (pr : Con → Bool) (hC : C.length ≤ 1048576) (hcap : ∀ H fu, viewL H fu cap = some cap)
    (hf : ∀ k, k < C.length → PCall Try.prog f (.agg [.val (.int .i64 (cg C k).1), .val (.int .i64 (cg C k).2.1), .val (.bool (cg C k).2.2)] :: cap) (.val (.bool (pr ((cg C k).1, (cg C k).2.1, (cg C k).2.2))))) :
    PCall Try.prog 148 [rc C, .clos (.func f) [] cap] (.val (.bool (C.any pr))) := by
  refine FCall.pcall (R := fun r _ => r = .val (.bool (C.any pr))) ?_ 0 (by rintro r H rfl; exact view_bool)
  refine FCall.of_body Try.func148 rfl (by kernel_rfl) (by simp [Try.ntmps148]) ?_
  refine SW_of_vc Try.mixed _ _ _ (by kernel_rfl) ?_
  simp (disch := omega) only [Try.ntmps148, Try.results148, go_sem, rc]
  refine (Try.indexFuncM_ok f cap C pr hC hcap hf).callV 1 (viewL_cons_of view_row (viewL_cons_of (view_clos (hcap _ _)) viewL_nil_of)) ?_
  have hg := fidx_ge pr C
  cases h : C.any pr with
  | true =>
    have := hg.mpr h
    simp (disch := omega) only [Try.ntmps148, Try.results148, go_sem, rc]
    exact Fin.val rfl
  | false =>
    have : ¬ 0 ≤ fidx pr C := fun e => by rw [hg.mp e] at h; cases h
    simp (disch := omega) only [Try.ntmps148, Try.results148, go_sem, rc]
    exact Fin.val rfl

theorem Try.indexFunc_ok (f : FuncId) (cap : List SV) (C : List Con) (pr : Con → Bool) (hC : C.length ≤ 1048576) (hcap : ∀ H fu, viewL H fu cap = some cap)
    (hf : ∀ a b s, PCall Try.prog f (.agg [.val (.int .i64 a), .val (.int .i64 b), .val (.bool s)] :: cap) (.val (.bool (pr (a, b, s))))) :
    PCall Try.prog 162 [rc C, .clos (.func f) [] cap] (.val (.int .i64 (fidx pr C))) := Try.indexFuncM_ok f cap C pr hC hcap fun _ _ => hf _ _ _
theorem Try.containsFunc_ok (f : FuncId) (cap : List SV) (C : List Con) (pr : Con → Bool) (hC : C.length ≤ 1048576) (hcap : ∀ H fu, viewL H fu cap = some cap)
    (hf : ∀ a b s, PCall Try.prog f (.agg [.val (.int .i64 a), .val (.int .i64 b), .val (.bool s)] :: cap) (.val (.bool (pr (a, b, s))))) :
    PCall Try.prog 148 [rc C, .clos (.func f) [] cap] (.val (.bool (C.any pr))) := Try.containsFuncM_ok f cap C pr hC hcap fun _ _ => hf _ _ _

def goodCon (n : Int) (c : Con) : Bool := inR c.1 0 (n - 1) && (inR c.2.1 0 (n - 1) && decide (c.1 < c.2.1))
def areCons (n : Int) (C : List Con) : Bool := inR n 1 8 && (decide (C.length ≤ 10) && C.all (goodCon n))

theorem Try.areConsFn_ok (n a b : Int) (s : Bool) (h1 : -9223372036854775807 ≤ n) (h2 : n ≤ 9223372036854775807) :
    PCall Try.prog 170 [.agg [.val (.int .i64 a), .val (.int .i64 b), .val (.bool s)], .rptr [.val (.int .i64 n)] 0] (.val (.bool (!goodCon n (a, b, s)))) := by
  refine FCall.pcall (R := fun r _ => r = .val (.bool (!goodCon n (a, b, s)))) ?_ 0 (by rintro r H rfl; exact view_bool)
  refine FCall.of_body Try.func170 rfl (by kernel_rfl) (by simp [Try.ntmps170]) ?_
  refine SW_of_vc Try.mixed _ _ _ (by kernel_rfl) ?_
  simp (disch := omega) only [Try.ntmps170, Try.results170, go_sem]
  refine (Try.isItem_ok a n h1 h2).callV 0 (viewL_cons_of (view_int) (viewL_cons_of (view_int) viewL_nil_of)) ?_
  cases ha : inR a 0 (n - 1) with
  | false =>
    simp (disch := omega) only [Try.ntmps170, Try.results170, go_sem]
    exact Fin.val (by simp [goodCon, ha])
  | true =>
    simp (disch := omega) only [Try.ntmps170, Try.results170, go_sem]
    refine (Try.isItem_ok b n h1 h2).callV 0 (viewL_cons_of (view_int) (viewL_cons_of (view_int) viewL_nil_of)) ?_
    cases hb : inR b 0 (n - 1) with
    | false =>
      simp (disch := omega) only [Try.ntmps170, Try.results170, go_sem]
      exact Fin.val (by simp [goodCon, hb])
    | true =>
      by_cases hab : a < b
      · simp (disch := omega) only [Try.ntmps170, Try.results170, go_sem]
        exact Fin.val (by simp [goodCon, ha, hb, hab])
      · simp (disch := omega) only [Try.ntmps170, Try.results170, go_sem]
        exact Fin.val (by simp [goodCon, hab])

theorem cap_rptr (cs : List SV) (off : Nat) : ∀ H fu, viewL H fu [.rptr cs off] = some [.rptr cs off] := fun _ _ => viewL_cons_of view_rptr viewL_nil_of

theorem not_any_not {C : List Con} {p : Con → Bool} : (!C.any fun c => !p c) = C.all p := by
  induction C with
  | nil => rfl
  | cons c C ih => simp only [List.any_cons, List.all_cons, ← ih]; cases p c <;> simp

set_option maxHeartbeats 1000000 in
theorem Try.implAreConstraints_ok (n : Int) (C : List Con) (hC : C.length ≤ 1048576) : PCall Try.prog 163 [.val (.int .i64 n), rc C] (.val (.bool (areCons n C))) := by
  refine FCall.pcall (R := fun r _ => r = .val (.bool (areCons n C))) ?_ 0 (by rintro r H rfl; exact view_bool)
  refine FCall.of_body Try.func163 rfl (by kernel_rfl) (by simp [Try.ntmps163]) ?_
  refine SW_of_vc Try.mixed _ _ _ (by kernel_rfl) ?_
  simp (disch := omega) only [Try.ntmps163, Try.results163, go_sem, rc]
  refine (Try.within_ok _ _ _).callV 0 (viewL_cons_of (view_int) (viewL_cons_of (view_int) (viewL_cons_of (view_int) viewL_nil_of))) ?_
  cases hin : inR n 1 8 with
  | false =>
    simp (disch := omega) only [Try.ntmps163, Try.results163, go_sem, rc]
    exact Fin.val (by simp [areCons, hin])
  | true =>
    obtain ⟨n1, n2⟩ := inR_of hin
    by_cases hl : C.length ≤ 10
    · simp (disch := omega) only [Try.ntmps163, Try.results163, go_sem, rc]
      refine (Try.containsFunc_ok 170 [.rptr [.val (.int .i64 n)] 0] C (fun c => !goodCon n c) hC (cap_rptr _ _) (fun a b s => Try.areConsFn_ok n a b s (by omega) (by omega))).callV 2
        (viewL_cons_of view_row (viewL_cons_of (view_clos (viewL_cons_of (view_optr rfl (viewL_cons_of view_int viewL_nil_of)) viewL_nil_of)) viewL_nil_of)) ?_
      simp (disch := omega) only [Try.ntmps163, Try.results163, go_sem, rc]
      exact Fin.val (by rw [not_any_not]; simp [areCons, hin, hl])
    · simp (disch := omega) only [Try.ntmps163, Try.results163, go_sem, rc]
      exact Fin.val (by simp [areCons, hl])

set_option maxHeartbeats 2000000 in
theorem Try.specAreConstraints_ok (n : Int) (C : List Con) (hC : C.length ≤ 1048576) (g1 : -9223372036854775808 ≤ n) (g2 : n ≤ 9223372036854775807) : PCall Try.prog 133 [.val (.int .i64 n), rc C] (.val (.bool (areCons n C))) := by
  refine FCall.pcall (R := fun r _ => r = .val (.bool (areCons n C))) ?_ 0 (by rintro r H rfl; exact view_bool)
  refine FCall.of_body Try.func133 rfl (by kernel_rfl) (by simp [Try.ntmps133]) ?_
  refine SW_of_vc Try.mixed _ _ _ (by kernel_rfl) ?_
  have lC := cons_length C
  simp (disch := omega) only [Try.ntmps133, Try.results133, go_sem, rc]
  have hgood : ∀ k, k < C.length → goodCon n (cg C k) = false → areCons n C = false := by
    intro k hk hg
    have : C.all (goodCon n) = false := by
      rw [List.all_eq_false]
      exact ⟨C[k], List.getElem_mem hk, by simpa [cg, hk] using hg⟩
    simp [areCons, this]
  refine LoopW.loop (fun k : Nat => ⟨ofL [(0, .val (.int .i64 n)), (1, rc C), (5, .val (.int .i64 k))], hp [] 0⟩) (fun k => k ≤ C.length ∧ (inR n 1 8 = true → ∀ i, i < k → goodCon n (cg C i) = true)) (fun k => C.length - k) 0 ⟨by omega, by simp⟩ (Wk.of (by simp only [go_sem, ↓List.forall_mem_cons, List.not_mem_nil, false_implies, implies_true, and_true, true_and, and_self, ri_eq, Int.natCast_add, Int.cast_ofNat_Int, rc]; try simp) rfl) ?_
  rintro k ⟨hk, hkk⟩
  refine SW_of_vc Try.mixed _ _ _ (by kernel_rfl) ?_
  by_cases hlt : k < C.length
  · obtain ⟨a, b, t, hc⟩ := con_ex C k
    obtain ⟨q0, q1, _, _⟩ := cons_of hlt hc
    by_cases hn : n = -9223372036854775808
    · have hin : inR n 1 8 = false := inR_f1 (by omega)
      have hr : areCons n C = false := by simp [areCons, hin]
      obtain ⟨z, hz⟩ : ∃ z, IntKind.i64.wrap (n - 1) = z := ⟨_, rfl⟩
      rcases Bool.eq_false_or_eq_true (inR a 0 z) with ha | ha
      · rcases Bool.eq_false_or_eq_true (inR b 0 z) with hb | hb
        · by_cases hab : a < b
          · simp (disch := omega) only [Try.ntmps133, Try.results133, go_sem, hz, rc, q0, q1]
            refine (Try.l1In_ok _ _ _).callDV 0 (viewL_cons_of (view_int) (viewL_cons_of (view_int) (viewL_cons_of (view_int) viewL_nil_of))) ?_
            simp (disch := omega) only [Try.ntmps133, Try.results133, go_sem, ha, hz, rc, q0, q1]
            refine (Try.l1In_ok _ _ _).callDV 0 (viewL_cons_of (view_int) (viewL_cons_of (view_int) (viewL_cons_of (view_int) viewL_nil_of))) ?_
            simp (disch := omega) only [Try.ntmps133, Try.results133, go_sem, hb, ha, hz, rc, q0, q1]
            exact ⟨k + 1, ⟨by omega, fun h => by rw [hin] at h; cases h⟩, by omega, Wk.of (by simp only [go_sem, ↓List.forall_mem_cons, List.not_mem_nil, false_implies, implies_true, and_true, true_and, and_self, ri_eq, Int.natCast_add, Int.cast_ofNat_Int, rc]; try simp) rfl⟩
          · simp (disch := omega) only [Try.ntmps133, Try.results133, go_sem, hz, rc, q0, q1]
            refine (Try.l1In_ok _ _ _).callDV 0 (viewL_cons_of (view_int) (viewL_cons_of (view_int) (viewL_cons_of (view_int) viewL_nil_of))) ?_
            simp (disch := omega) only [Try.ntmps133, Try.results133, go_sem, ha, hz, rc, q0, q1]
            refine (Try.l1In_ok _ _ _).callDV 0 (viewL_cons_of (view_int) (viewL_cons_of (view_int) (viewL_cons_of (view_int) viewL_nil_of))) ?_
            simp (disch := omega) only [Try.ntmps133, Try.results133, go_sem, hb, ha, hz, rc, q0, q1]
            exact Fin.val (by rw [hr])
        · simp (disch := omega) only [Try.ntmps133, Try.results133, go_sem, hz, rc, q0, q1]
          refine (Try.l1In_ok _ _ _).callDV 0 (viewL_cons_of (view_int) (viewL_cons_of (view_int) (viewL_cons_of (view_int) viewL_nil_of))) ?_
          simp (disch := omega) only [Try.ntmps133, Try.results133, go_sem, ha, hz, rc, q0, q1]
          refine (Try.l1In_ok _ _ _).callDV 0 (viewL_cons_of (view_int) (viewL_cons_of (view_int) (viewL_cons_of (view_int) viewL_nil_of))) ?_
          simp (disch := omega) only [Try.ntmps133, Try.results133, go_sem, hb, ha, hz, rc, q0, q1]
          exact Fin.val (by rw [hr])
      · simp (disch := omega) only [Try.ntmps133, Try.results133, go_sem, hz, rc, q0, q1]
        refine (Try.l1In_ok _ _ _).callDV 0 (viewL_cons_of (view_int) (viewL_cons_of (view_int) (viewL_cons_of (view_int) viewL_nil_of))) ?_
        simp (disch := omega) only [Try.ntmps133, Try.results133, go_sem, ha, hz, rc, q0, q1]
        exact Fin.val (by rw [hr])
    · rcases Bool.eq_false_or_eq_true (inR a 0 (n - 1)) with ha | ha
      · rcases Bool.eq_false_or_eq_true (inR b 0 (n - 1)) with hb | hb
        · by_cases hab : a < b
          · simp (disch := omega) only [Try.ntmps133, Try.results133, go_sem, rc, q0, q1]
            refine (Try.l1In_ok _ _ _).callDV 0 (viewL_cons_of (view_int) (viewL_cons_of (view_int) (viewL_cons_of (view_int) viewL_nil_of))) ?_
            simp (disch := omega) only [Try.ntmps133, Try.results133, go_sem, ha, rc, q0, q1]
            refine (Try.l1In_ok _ _ _).callDV 0 (viewL_cons_of (view_int) (viewL_cons_of (view_int) (viewL_cons_of (view_int) viewL_nil_of))) ?_
            simp (disch := omega) only [Try.ntmps133, Try.results133, go_sem, hb, ha, rc, q0, q1]
            refine ⟨k + 1, ⟨by omega, fun h i hi => ?_⟩, by omega, Wk.of (by simp only [go_sem, ↓List.forall_mem_cons, List.not_mem_nil, false_implies, implies_true, and_true, true_and, and_self, ri_eq, Int.natCast_add, Int.cast_ofNat_Int, rc]; try simp) rfl⟩
            rcases Nat.lt_succ_iff_lt_or_eq.mp hi with h' | rfl
            · exact hkk h i h'
            · simp [hc, goodCon, ha, hb, hab]
          · simp (disch := omega) only [Try.ntmps133, Try.results133, go_sem, rc, q0, q1]
            refine (Try.l1In_ok _ _ _).callDV 0 (viewL_cons_of (view_int) (viewL_cons_of (view_int) (viewL_cons_of (view_int) viewL_nil_of))) ?_
            simp (disch := omega) only [Try.ntmps133, Try.results133, go_sem, ha, rc, q0, q1]
            refine (Try.l1In_ok _ _ _).callDV 0 (viewL_cons_of (view_int) (viewL_cons_of (view_int) (viewL_cons_of (view_int) viewL_nil_of))) ?_
            simp (disch := omega) only [Try.ntmps133, Try.results133, go_sem, hb, ha, rc, q0, q1]
            exact Fin.val (by rw [hgood k hlt (by simp [hc, goodCon, hab])])
        · simp (disch := omega) only [Try.ntmps133, Try.results133, go_sem, rc, q0, q1]
          refine (Try.l1In_ok _ _ _).callDV 0 (viewL_cons_of (view_int) (viewL_cons_of (view_int) (viewL_cons_of (view_int) viewL_nil_of))) ?_
          simp (disch := omega) only [Try.ntmps133, Try.results133, go_sem, ha, rc, q0, q1]
          refine (Try.l1In_ok _ _ _).callDV 0 (viewL_cons_of (view_int) (viewL_cons_of (view_int) (viewL_cons_of (view_int) viewL_nil_of))) ?_
          simp (disch := omega) only [Try.ntmps133, Try.results133, go_sem, hb, ha, rc, q0, q1]
          exact Fin.val (by rw [hgood k hlt (by simp [hc, goodCon, hb])])
      · simp (disch := omega) only [Try.ntmps133, Try.results133, go_sem, rc, q0, q1]
        refine (Try.l1In_ok _ _ _).callDV 0 (viewL_cons_of (view_int) (viewL_cons_of (view_int) (viewL_cons_of (view_int) viewL_nil_of))) ?_
        simp (disch := omega) only [Try.ntmps133, Try.results133, go_sem, ha, rc, q0, q1]
        exact Fin.val (by rw [hgood k hlt (by simp [hc, goodCon, ha])])
  · obtain rfl : k = C.length := by omega
    simp (disch := omega) only [Try.ntmps133, Try.results133, go_sem, rc]
    refine (Try.l1In_ok _ _ _).callV 0 (viewL_cons_of (view_int) (viewL_cons_of (view_int) (viewL_cons_of (view_int) viewL_nil_of))) ?_
    rcases Bool.eq_false_or_eq_true (inR n 1 8) with hin | hin
    · have hall : C.all (goodCon n) = true := by
        rw [List.all_eq_true]
        intro c hc
        obtain ⟨i, hi, e⟩ := List.getElem_of_mem hc
        have := hkk hin i hi
        simpa [cg, hi, e] using this
      by_cases hl : C.length ≤ 10
      · simp (disch := omega) only [Try.ntmps133, Try.results133, go_sem, hin, rc]
        exact Fin.val (by rw [areCons, hin, hall]; simp [hl])
      · simp (disch := omega) only [Try.ntmps133, Try.results133, go_sem, hin, rc]
        exact Fin.val (by rw [areCons, hin, hall]; simp [hl])
    · simp (disch := omega) only [Try.ntmps133, Try.results133, go_sem, hin, rc]
      exact Fin.val (by simp [areCons, hin])
end Go.Sh

/-
  Contracts: does a partition keep constraints? Of the reference and of the program.
-/
namespace Go.Sh
set_option linter.unusedSimpArgs false
set_option linter.unusedVariables false
open Go Go.Proofs

def kp (L : List Int) (c : Con) : Bool := inR c.1 0 ((L.length : Int) - 1) && (inR c.2.1 0 ((L.length : Int) - 1) && (decide (L.getD c.1.toNat 0 = L.getD c.2.1.toNat 0) == c.2.2))

set_option maxHeartbeats 1000000 in
theorem Try.keepsFn_ok (L : List Int) (a b : Int) (s : Bool) (hL : L.length ≤ 1048576) :
    PCall Try.prog 149 [.agg [.val (.int .i64 a), .val (.int .i64 b), .val (.bool s)], .rptr [ri L] 0] (.val (.bool (!kp L (a, b, s)))) := by
  refine FCall.pcall (R := fun r _ => r = .val (.bool (!kp L (a, b, s)))) ?_ 0 (by rintro r H rfl; exact view_bool)
  refine FCall.of_body Try.func149 rfl (by kernel_rfl) (by simp [Try.ntmps149]) ?_
  refine SW_of_vc Try.mixed _ _ _ (by kernel_rfl) ?_
  have w1 := Try.isItem_ok a (L.length : Int) (by omega) (by omega)
  have w2 := Try.isItem_ok b (L.length : Int) (by omega) (by omega)
  rcases Bool.eq_false_or_eq_true (inR a 0 ((L.length : Int) - 1)) with ha | ha
  · obtain ⟨a1, a2⟩ := inR_of ha
    rcases Bool.eq_false_or_eq_true (inR b 0 ((L.length : Int) - 1)) with hb | hb
    · obtain ⟨b1, b2⟩ := inR_of hb
      rw [ha] at w1
      rw [hb] at w2
      by_cases he : L.getD a.toNat 0 = L.getD b.toNat 0
      · cases s <;> (simp (disch := omega) only [Try.ntmps149, Try.results149, go_sem]; refine w1.callDV 0 (viewL_cons_of (view_int) (viewL_cons_of (view_int) viewL_nil_of)) ?_; simp (disch := omega) only [Try.ntmps149, Try.results149, go_sem]; refine w2.callDV 0 (viewL_cons_of (view_int) (viewL_cons_of (view_int) viewL_nil_of)) ?_; simp (disch := omega) only [Try.ntmps149, Try.results149, go_sem, he]; exact Fin.val (by rw [kp]; simp only [ha, hb, he]; simp))
      · cases s <;> (simp (disch := omega) only [Try.ntmps149, Try.results149, go_sem]; refine w1.callDV 0 (viewL_cons_of (view_int) (viewL_cons_of (view_int) viewL_nil_of)) ?_; simp (disch := omega) only [Try.ntmps149, Try.results149, go_sem]; refine w2.callDV 0 (viewL_cons_of (view_int) (viewL_cons_of (view_int) viewL_nil_of)) ?_; simp (disch := omega) only [Try.ntmps149, Try.results149, go_sem]; exact Fin.val (by rw [kp]; simp only [ha, hb, he]; simp))
    · rw [ha] at w1
      rw [hb] at w2
      simp (disch := omega) only [Try.ntmps149, Try.results149, go_sem]
      refine w1.callDV 0 (viewL_cons_of (view_int) (viewL_cons_of (view_int) viewL_nil_of)) ?_
      simp (disch := omega) only [Try.ntmps149, Try.results149, go_sem]
      refine w2.callDV 0 (viewL_cons_of (view_int) (viewL_cons_of (view_int) viewL_nil_of)) ?_
      simp (disch := omega) only [Try.ntmps149, Try.results149, go_sem]
      exact Fin.val (by simp [kp, hb])
  · rw [ha] at w1
    simp (disch := omega) only [Try.ntmps149, Try.results149, go_sem]
    refine w1.callDV 0 (viewL_cons_of (view_int) (viewL_cons_of (view_int) viewL_nil_of)) ?_
    simp (disch := omega) only [Try.ntmps149, Try.results149, go_sem]
    exact Fin.val (by simp [kp, ha])

theorem Try.keeps_ok (L : List Int) (C : List Con) (hL : L.length ≤ 1048576) (hC : C.length ≤ 1048576) : PCall Try.prog 129 [ri L, rc C] (.val (.bool (C.all (kp L)))) := by
  refine FCall.pcall (R := fun r _ => r = .val (.bool (C.all (kp L)))) ?_ 0 (by rintro r H rfl; exact view_bool)
  refine FCall.of_body Try.func129 rfl (by kernel_rfl) (by simp [Try.ntmps129]) ?_
  refine SW_of_vc Try.mixed _ _ _ (by kernel_rfl) ?_
  simp (disch := omega) only [Try.ntmps129, Try.results129, go_sem, rc]
  refine (Try.containsFunc_ok 149 [.rptr [ri L] 0] C (fun c => !kp L c) hC (cap_rptr _ _) (fun a b s => Try.keepsFn_ok L a b s hL)).callV 2
    (viewL_cons_of view_row (viewL_cons_of (view_clos (viewL_cons_of (view_optr rfl (viewL_cons_of (view_rowL rfl) viewL_nil_of)) viewL_nil_of)) viewL_nil_of)) ?_
  simp (disch := omega) only [Try.ntmps129, Try.results129, go_sem]
  exact Fin.val (by rw [not_any_not])

theorem Try.implKeepsConstraints_ok (L : List Int) (C : List Con) (hL : L.length ≤ 1048576) (hC : C.length ≤ 1048576) : PCall Try.prog 105 [ri L, rc C] (.val (.bool (isPart L && C.all (kp L)))) := by
  refine FCall.pcall (R := fun r _ => r = .val (.bool (isPart L && C.all (kp L)))) ?_ 0 (by rintro r H rfl; exact view_bool)
  refine FCall.of_body Try.func105 rfl (by kernel_rfl) (by simp [Try.ntmps105]) ?_
  refine SW_of_vc Try.mixed _ _ _ (by kernel_rfl) ?_
  have w1 := Try.implIsPartition_ok L hL
  rcases Bool.eq_false_or_eq_true (isPart L) with hp | hp
  · rw [hp] at w1
    simp (disch := omega) only [Try.ntmps105, Try.results105, go_sem, rc]
    refine w1.callV 0 (viewL_cons_of (view_rowL (by first | rfl | simp [marks_length, canon_length] | omega)) viewL_nil_of) ?_
    simp (disch := omega) only [Try.ntmps105, Try.results105, go_sem, rc]
    refine (Try.keeps_ok L C hL hC).callV 0 (viewL_cons_of (view_rowL (by first | rfl | simp [marks_length, canon_length] | omega)) (viewL_cons_of (view_row) viewL_nil_of)) ?_
    simp (disch := omega) only [Try.ntmps105, Try.results105, go_sem, rc]
    exact Fin.val (by simp [hp])
  · rw [hp] at w1
    simp (disch := omega) only [Try.ntmps105, Try.results105, go_sem, rc]
    refine w1.callV 0 (viewL_cons_of (view_rowL (by first | rfl | simp [marks_length, canon_length] | omega)) viewL_nil_of) ?_
    simp (disch := omega) only [Try.ntmps105, Try.results105, go_sem, rc]
    exact Fin.val (by simp [hp])

set_option maxHeartbeats 4000000 in
theorem Try.specKeepsConstraints_ok (L : List Int) (C : List Con) (hL : L.length ≤ 1048576) (hC : C.length ≤ 1048576) : PCall Try.prog 103 [ri L, rc C] (.val (.bool (isPart L && C.all (kp L)))) := by
  refine FCall.pcall (R := fun r _ => r = .val (.bool (isPart L && C.all (kp L)))) ?_ 0 (by rintro r H rfl; exact view_bool)
  refine FCall.of_body Try.func103 rfl (by kernel_rfl) (by simp [Try.ntmps103]) ?_
  refine SW_of_vc Try.mixed _ _ _ (by kernel_rfl) ?_
  have lC := cons_length C
  simp (disch := omega) only [Try.ntmps103, Try.results103, go_sem, rc]
  have hbad : ∀ k, k < C.length → kp L (cg C k) = false → (isPart L && C.all (kp L)) = false := by
    intro k hk hg
    have : C.all (kp L) = false := by
      rw [List.all_eq_false]
      exact ⟨C[k], List.getElem_mem hk, by simpa [cg, hk] using hg⟩
    simp [this]
  refine LoopW.loop (fun k : Nat => ⟨ofL [(0, ri L), (1, rc C), (5, .val (.int .i64 k))], hp [] 0⟩) (fun k => k ≤ C.length ∧ (∀ i, i < k → kp L (cg C i) = true)) (fun k => C.length - k) 0 ⟨by omega, by simp⟩ (Wk.of (by simp only [go_sem, ↓List.forall_mem_cons, List.not_mem_nil, false_implies, implies_true, and_true, true_and, and_self, ri_eq, Int.natCast_add, Int.cast_ofNat_Int, rc]; try simp) rfl) ?_
  rintro k ⟨hk, hkk⟩
  refine SW_of_vc Try.mixed _ _ _ (by kernel_rfl) ?_
  by_cases hlt : k < C.length
  · obtain ⟨a, b, s, hc⟩ := con_ex C k
    obtain ⟨q0, q1, q2, _⟩ := cons_of hlt hc
    have w1 := Try.l1In_ok a 0 ((L.length : Int) - 1)
    have w2 := Try.l1In_ok b 0 ((L.length : Int) - 1)
    have hb0 := hbad k hlt
    rw [hc] at hb0
    rcases Bool.eq_false_or_eq_true (inR a 0 ((L.length : Int) - 1)) with ha | ha
    · obtain ⟨a1, a2⟩ := inR_of ha
      rcases Bool.eq_false_or_eq_true (inR b 0 ((L.length : Int) - 1)) with hb | hb
      · obtain ⟨b1, b2⟩ := inR_of hb
        rw [ha] at w1
        rw [hb] at w2
        by_cases hs : (decide (L.getD a.toNat 0 = L.getD b.toNat 0) == s) = true
        · have hkp : kp L (a, b, s) = true := by rw [kp]; simp only [ha, hb, hs]; rfl
          have hnew : ∀ i, i < k + 1 → kp L (cg C i) = true := by
            intro i hi
            rcases Nat.lt_succ_iff_lt_or_eq.mp hi with h' | rfl
            · exact hkk i h'
            · rw [hc]; exact hkp
          by_cases he : L.getD a.toNat 0 = L.getD b.toNat 0
          · obtain rfl : s = true := by
              rw [decide_eq_true he] at hs
              cases s with
              | false => cases hs
              | true => rfl
            simp (disch := omega) only [Try.ntmps103, Try.results103, go_sem, rc, q0, q1, q2]
            refine w1.callDV 0 (viewL_cons_of (view_int) (viewL_cons_of (view_int) (viewL_cons_of (view_int) viewL_nil_of))) ?_
            simp (disch := omega) only [Try.ntmps103, Try.results103, go_sem, rc, q0, q1, q2]
            refine w2.callDV 0 (viewL_cons_of (view_int) (viewL_cons_of (view_int) (viewL_cons_of (view_int) viewL_nil_of))) ?_
            simp (disch := omega) only [Try.ntmps103, Try.results103, go_sem, rc, q0, q1, q2, he]
            exact ⟨k + 1, ⟨by omega, hnew⟩, by omega, Wk.of (by simp only [go_sem, ↓List.forall_mem_cons, List.not_mem_nil, false_implies, implies_true, and_true, true_and, and_self, ri_eq, Int.natCast_add, Int.cast_ofNat_Int, rc]; try simp) rfl⟩
          · obtain rfl : s = false := by
              rw [decide_eq_false he] at hs
              cases s with
              | false => rfl
              | true => cases hs
            simp (disch := omega) only [Try.ntmps103, Try.results103, go_sem, rc, q0, q1, q2]
            refine w1.callDV 0 (viewL_cons_of (view_int) (viewL_cons_of (view_int) (viewL_cons_of (view_int) viewL_nil_of))) ?_
            simp (disch := omega) only [Try.ntmps103, Try.results103, go_sem, rc, q0, q1, q2]
            refine w2.callDV 0 (viewL_cons_of (view_int) (viewL_cons_of (view_int) (viewL_cons_of (view_int) viewL_nil_of))) ?_
            simp (disch := omega) only [Try.ntmps103, Try.results103, go_sem, rc, q0, q1, q2]
            exact ⟨k + 1, ⟨by omega, hnew⟩, by omega, Wk.of (by simp only [go_sem, ↓List.forall_mem_cons, List.not_mem_nil, false_implies, implies_true, and_true, true_and, and_self, ri_eq, Int.natCast_add, Int.cast_ofNat_Int, rc]; try simp) rfl⟩
        · have hs : (decide (L.getD a.toNat 0 = L.getD b.toNat 0) == s) = false := by simpa using hs
          have hkp : kp L (a, b, s) = false := by rw [kp]; simp only [hs, Bool.and_false]
          by_cases he : L.getD a.toNat 0 = L.getD b.toNat 0
          · obtain rfl : s = false := by
              rw [decide_eq_true he] at hs
              cases s with
              | false => rfl
              | true => cases hs
            simp (disch := omega) only [Try.ntmps103, Try.results103, go_sem, rc, q0, q1, q2]
            refine w1.callDV 0 (viewL_cons_of (view_int) (viewL_cons_of (view_int) (viewL_cons_of (view_int) viewL_nil_of))) ?_
            simp (disch := omega) only [Try.ntmps103, Try.results103, go_sem, rc, q0, q1, q2]
            refine w2.callDV 0 (viewL_cons_of (view_int) (viewL_cons_of (view_int) (viewL_cons_of (view_int) viewL_nil_of))) ?_
            simp (disch := omega) only [Try.ntmps103, Try.results103, go_sem, rc, q0, q1, q2, he]
            exact Fin.val (by rw [hb0 hkp])
          · obtain rfl : s = true := by
              rw [decide_eq_false he] at hs
              cases s with
              | false => cases hs
              | true => rfl
            simp (disch := omega) only [Try.ntmps103, Try.results103, go_sem, rc, q0, q1, q2]
            refine w1.callDV 0 (viewL_cons_of (view_int) (viewL_cons_of (view_int) (viewL_cons_of (view_int) viewL_nil_of))) ?_
            simp (disch := omega) only [Try.ntmps103, Try.results103, go_sem, rc, q0, q1, q2]
            refine w2.callDV 0 (viewL_cons_of (view_int) (viewL_cons_of (view_int) (viewL_cons_of (view_int) viewL_nil_of))) ?_
            simp (disch := omega) only [Try.ntmps103, Try.results103, go_sem, rc, q0, q1, q2]
            exact Fin.val (by rw [hb0 hkp])
      · have hkp : kp L (a, b, s) = false := by rw [kp]; simp only [hb, Bool.false_and, Bool.and_false]
        rw [ha] at w1
        rw [hb] at w2
        simp (disch := omega) only [Try.ntmps103, Try.results103, go_sem, rc, q0, q1, q2]
        refine w1.callDV 0 (viewL_cons_of (view_int) (viewL_cons_of (view_int) (viewL_cons_of (view_int) viewL_nil_of))) ?_
        simp (disch := omega) only [Try.ntmps103, Try.results103, go_sem, rc, q0, q1, q2]
        refine w2.callDV 0 (viewL_cons_of (view_int) (viewL_cons_of (view_int) (viewL_cons_of (view_int) viewL_nil_of))) ?_
        simp (disch := omega) only [Try.ntmps103, Try.results103, go_sem, rc]
        exact Fin.val (by rw [hb0 hkp])
    · have hkp : kp L (a, b, s) = false := by rw [kp]; simp only [ha, Bool.false_and]
      rw [ha] at w1
      simp (disch := omega) only [Try.ntmps103, Try.results103, go_sem, rc, q0, q1, q2]
      refine w1.callDV 0 (viewL_cons_of (view_int) (viewL_cons_of (view_int) (viewL_cons_of (view_int) viewL_nil_of))) ?_
      simp (disch := omega) only [Try.ntmps103, Try.results103, go_sem, rc]
      exact Fin.val (by rw [hb0 hkp])
  · obtain rfl : k = C.length := by omega
    simp (disch := omega) only [Try.ntmps103, Try.results103, go_sem, rc]
    refine (Try.specIsPartition_ok L hL).callV 0 (viewL_cons_of (view_rowL (by first | rfl | simp [marks_length, canon_length] | omega)) viewL_nil_of) ?_
    simp (disch := omega) only [Try.ntmps103, Try.results103, go_sem, rc]
    have hall : C.all (kp L) = true := by
      rw [List.all_eq_true]
      intro c hc
      obtain ⟨i, hi, e⟩ := List.getElem_of_mem hc
      have := hkk i hi
      simpa [cg, hi, e] using this
    exact Fin.val (by rw [hall]; simp)
end Go.Sh

/-
  The search for the best partition: plain. The program looks at every partition, the reference leaves out what cannot be the best.
-/
namespace Go.Sh
set_option linter.unusedSimpArgs false
set_option linter.unusedVariables false
open Go Go.Proofs

structure BS where
  first : List Int
  least : Int
  count : Nat
def updB (M : List (List Int)) (C : List Con) (s : BS) (p : List Int) : BS :=
  if C.all (kp p) = true then
    (if s.least < 0 ∨ cc M p p.length < s.least then ⟨p, cc M p p.length, 1⟩
     else if cc M p p.length = s.least then ⟨s.first, s.least, s.count + 1⟩ else s)
  else s
def each (f : BS → List Int → BS) : Nat → List Int → Nat → BS → BS
  | 0, p, _, s => f s p
  | k + 1, p, nx, s => (List.range (nx + 1)).foldl (fun s (x : Nat) => each f k (p ++ [(x : Int)]) (max nx (x + 1)) s) s
def badK (C : List Con) (p : List Int) : Bool := C.any fun c => decide (c.2.1 = (p.length : Int) - 1) && (decide (p.getD c.1.toNat 0 = p.getD (p.length - 1) 0) != c.2.2)
def wadd (M : List (List Int)) (l : List Int) (k : Int) : Nat → Int
  | 0 => 0
  | t + 1 => wadd M l k t + (if l.getD t 0 = k then max 0 (-mat M t l.length) else max 0 (mat M t l.length))
def walkEnd (p : List Int) (cost : Int) (s : BS) : BS := if s.least < 0 ∨ cost < s.least then ⟨p, cost, 1⟩ else ⟨s.first, s.least, s.count + 1⟩
def walkB (M : List (List Int)) (C : List Con) : Nat → List Int → Nat → Int → BS → BS
  | 0, p, _, cost, s => if 0 ≤ s.least ∧ s.least < cost then s else walkEnd p cost s
  | k + 1, p, nx, cost, s => if 0 ≤ s.least ∧ s.least < cost then s else
      (List.range (nx + 1)).foldl (fun s (x : Nat) => if badK C (p ++ [(x : Int)]) = true then s else walkB M C k (p ++ [(x : Int)]) (max nx (x + 1)) (cost + wadd M p x p.length) s) s

theorem foldl_fix {α β : Type} {g : α → β → α} {s : α} : ∀ (l : List β), (∀ x ∈ l, g s x = s) → l.foldl g s = s
  | [], _ => rfl
  | x :: l, h => by rw [List.foldl_cons, h x (by simp)]; exact foldl_fix l fun y hy => h y (by simp [hy])
theorem foldl_same {α β : Type} {g h : α → β → α} : ∀ (l : List β) (s : α), (∀ s x, x ∈ l → g s x = h s x) → l.foldl g s = l.foldl h s
  | [], _, _ => rfl
  | x :: l, s, e => by rw [List.foldl_cons, List.foldl_cons, e s x (by simp)]; exact foldl_same l _ fun s y hy => e s y (by simp [hy])
theorem snoc_lt {p : List Int} {x : Int} {i : Nat} (h : i < p.length) : (p ++ [x]).getD i 0 = p.getD i 0 := by
  simp [List.getD_eq_getElem?_getD, List.getElem?_append_left h]
theorem snoc_at {p : List Int} {x : Int} : (p ++ [x]).getD p.length 0 = x := by simp
theorem ct_snoc {M : List (List Int)} {p : List Int} {x : Int} {i k : Nat} (hi : i < p.length) (hk : k < p.length) : ct M (p ++ [x]) i k = ct M p i k := by
  rw [ct, ct, snoc_lt hi, snoc_lt hk]
theorem cr_snoc {M : List (List Int)} {p : List Int} {x : Int} {i : Nat} (hi : i < p.length) : ∀ k, k ≤ p.length → cr M (p ++ [x]) i k = cr M p i k
  | 0, _ => rfl
  | k + 1, hk => by rw [cr, cr, cr_snoc hi k (by omega), ct_snoc hi (by omega)]
theorem cc_snoc0 {M : List (List Int)} {p : List Int} {x : Int} : ∀ i, i ≤ p.length → cc M (p ++ [x]) i = cc M p i
  | 0, _ => rfl
  | i + 1, hi => by rw [cc, cc, cc_snoc0 i (by omega), cr_snoc (by omega) i (by omega)]
theorem cr_wadd {M : List (List Int)} (hw : WM M) {p : List Int} {x : Int} (hp : p.length < M.length) : ∀ t, t ≤ p.length → cr M (p ++ [x]) p.length t = wadd M p x t
  | 0, _ => rfl
  | t + 1, ht => by
    rw [cr, wadd, cr_wadd hw hp t (by omega), ct, snoc_at, snoc_lt (by omega)]
    have e := (hw.2.2.1 t p.length (by omega) hp).2
    rw [e]
    by_cases h : p.getD t 0 = x
    · rw [if_pos h, if_pos h.symm]
    · rw [if_neg h, if_neg (Ne.symm h)]
theorem cc_snoc {M : List (List Int)} (hw : WM M) {p : List Int} {x : Int} (hp : p.length < M.length) : cc M (p ++ [x]) (p ++ [x]).length = cc M p p.length + wadd M p x p.length := by
  rw [List.length_append, List.length_singleton, cc, cc_snoc0 _ (Nat.le_refl _), cr_wadd hw hp _ (Nat.le_refl _)]
theorem wadd_b {M : List (List Int)} (hw : WM M) {p : List Int} {x : Int} (hp : p.length < M.length) {t : Nat} (ht : t ≤ p.length) : 0 ≤ wadd M p x t ∧ wadd M p x t ≤ 1000 * t := by
  rw [← cr_wadd hw hp t ht]
  exact cr_b hw hp t (by omega)
theorem each_cut {M : List (List Int)} {C : List Con} (hw : WM M) {s : BS} (h0 : 0 ≤ s.least) : ∀ (k : Nat) (p : List Int) (nx : Nat), p.length + k = M.length → s.least < cc M p p.length → each (updB M C) k p nx s = s
  | 0, p, nx, hl, hc => by
    rw [each, updB]
    have h1 : ¬ (s.least < 0 ∨ cc M p p.length < s.least) := by omega
    have h2 : ¬ cc M p p.length = s.least := by omega
    rw [if_neg h1, if_neg h2]
    simp
  | k + 1, p, nx, hl, hc => by
    rw [each]
    refine foldl_fix _ fun x _ => each_cut hw h0 k _ _ (by simp; omega) ?_
    have := wadd_b hw (p := p) (x := x) (by omega) (Nat.le_refl _)
    rw [cc_snoc hw (by omega)]; omega
def Viol (C : List Con) (p : List Int) : Prop := ∃ c ∈ C, 0 ≤ c.1 ∧ c.1 < c.2.1 ∧ c.2.1 < (p.length : Int) ∧ decide (p.getD c.1.toNat 0 = p.getD c.2.1.toNat 0) ≠ c.2.2
theorem Viol.snoc {C : List Con} {p : List Int} {x : Int} (h : Viol C p) : Viol C (p ++ [x]) := by
  obtain ⟨c, hc, h1, h2, h3, h4⟩ := h
  refine ⟨c, hc, h1, h2, by simp; omega, ?_⟩
  rw [snoc_lt (by omega), snoc_lt (by omega)]
  exact h4
theorem Viol.all {C : List Con} {p : List Int} (h : Viol C p) : C.all (kp p) = false := by
  obtain ⟨c, hc, h1, h2, h3, h4⟩ := h
  rw [List.all_eq_false]
  refine ⟨c, hc, fun g => h4 ?_⟩
  rw [kp] at g
  simp only [Bool.and_eq_true] at g
  exact eq_of_beq g.2.2
theorem each_viol {M : List (List Int)} {C : List Con} {s : BS} : ∀ (k : Nat) (p : List Int) (nx : Nat), Viol C p → each (updB M C) k p nx s = s
  | 0, p, nx, h => by rw [each, updB, if_neg (by rw [h.all]; simp)]
  | k + 1, p, nx, h => by
    rw [each]
    exact foldl_fix _ fun x _ => each_viol k _ _ h.snoc
theorem bad_viol {n : Nat} {C : List Con} (hC : C.all (goodCon n) = true) {p : List Int} (h : badK C p = true) : Viol C p := by
  rw [badK, List.any_eq_true] at h
  obtain ⟨c, hc, h⟩ := h
  simp only [Bool.and_eq_true, decide_eq_true_eq, bne_iff_ne] at h
  have g := List.all_eq_true.1 hC c hc
  simp only [goodCon, Bool.and_eq_true, decide_eq_true_eq] at g
  obtain ⟨a1, a2⟩ := inR_of g.1
  refine ⟨c, hc, a1, g.2.2, by omega, ?_⟩
  have e : c.2.1.toNat = p.length - 1 := by omega
  rw [e]
  exact h.2
def Kept (C : List Con) (p : List Int) : Prop := ∀ c ∈ C, c.2.1 < (p.length : Int) → decide (p.getD c.1.toNat 0 = p.getD c.2.1.toNat 0) = c.2.2
theorem Kept.snoc {n : Nat} {C : List Con} (hC : C.all (goodCon n) = true) {p : List Int} {x : Int} (h : Kept C p) (hb : badK C (p ++ [x]) = false) : Kept C (p ++ [x]) := by
  intro c hc hlt
  have g := List.all_eq_true.1 hC c hc
  simp only [goodCon, Bool.and_eq_true, decide_eq_true_eq] at g
  obtain ⟨a1, a2⟩ := inR_of g.1
  obtain ⟨b1, b2⟩ := inR_of g.2.1
  have hs := g.2.2
  by_cases hl : c.2.1 < (p.length : Int)
  · rw [snoc_lt (by omega), snoc_lt (by omega)]
    exact h c hc hl
  · rw [badK, List.any_eq_false] at hb
    have hb := hb c hc
    have e1 : c.2.1 = ((p ++ [x]).length : Int) - 1 := by simp at hlt ⊢; omega
    have e2 : c.2.1.toNat = (p ++ [x]).length - 1 := by omega
    rw [e2]
    simpa [e1] using hb
theorem Kept.all {n : Nat} {C : List Con} (hC : C.all (goodCon n) = true) {p : List Int} (hn : p.length = n) (h : Kept C p) : C.all (kp p) = true := by
  rw [List.all_eq_true]
  intro c hc
  have g := List.all_eq_true.1 hC c hc
  simp only [goodCon, Bool.and_eq_true, decide_eq_true_eq] at g
  obtain ⟨b1, b2⟩ := inR_of g.2.1
  rw [kp, hn, g.1, g.2.1, h c hc (by omega)]
  simp
theorem walk_each {M : List (List Int)} {C : List Con} (hw : WM M) (hC : C.all (goodCon M.length) = true) : ∀ (k : Nat) (p : List Int) (nx : Nat) (s : BS), p.length + k = M.length → Kept C p →
    walkB M C k p nx (cc M p p.length) s = each (updB M C) k p nx s
  | 0, p, nx, s, hl, hk => by
    rw [walkB]
    by_cases h : 0 ≤ s.least ∧ s.least < cc M p p.length
    · rw [if_pos h, each_cut hw h.1 0 p nx hl h.2]
    · rw [if_neg h, each, updB, if_pos (hk.all hC (by omega)), walkEnd]
      by_cases g : s.least < 0 ∨ cc M p p.length < s.least
      · rw [if_pos g, if_pos g]
      · rw [if_neg g, if_neg g, if_pos (by omega)]
  | k + 1, p, nx, s, hl, hk => by
    rw [walkB]
    by_cases h : 0 ≤ s.least ∧ s.least < cc M p p.length
    · rw [if_pos h, each_cut hw h.1 (k + 1) p nx hl h.2]
    · rw [if_neg h, each]
      refine foldl_same _ _ fun s x _ => ?_
      rcases Bool.eq_false_or_eq_true (badK C (p ++ [(x : Int)])) with b | b
      · rw [if_pos b, each_viol k _ _ (bad_viol hC b)]
      · rw [if_neg (by rw [b]; simp), ← cc_snoc hw (by omega)]
        exact walk_each hw hC k _ _ s (by simp; omega) (hk.snoc hC b)
theorem foldl_count {g : BS → Nat → BS} {B : Nat} : ∀ (m : Nat) (s : BS), (∀ s x, x < m → (g s x).count ≤ s.count + B) → ((List.range m).foldl g s).count ≤ s.count + m * B
  | 0, s, _ => by simp
  | m + 1, s, h => by
    rw [List.range_succ, List.foldl_append]
    have h1 := foldl_count m s fun s x hx => h s x (by omega)
    have h2 := h ((List.range m).foldl g s) m (by omega)
    simp only [List.foldl_cons, List.foldl_nil]
    rw [Nat.succ_mul]; omega
theorem upd_count {M : List (List Int)} {C : List Con} {s : BS} {p : List Int} : (updB M C s p).count ≤ s.count + 1 := by
  unfold updB
  split
  · split
    · show 1 ≤ _; omega
    · split
      · exact Nat.le_refl _
      · omega
  · omega
theorem mul9 {a b B : Nat} (h : a ≤ b) : a * B ≤ b * B := Nat.mul_le_mul_right B h
theorem each_count {M : List (List Int)} {C : List Con} : ∀ (k : Nat) (p : List Int) (nx : Nat) (s : BS), nx + k ≤ 8 → (each (updB M C) k p nx s).count ≤ s.count + 9 ^ k
  | 0, p, nx, s, _ => upd_count
  | k + 1, p, nx, s, h => by
    rw [each]
    have h1 := foldl_count (g := fun s (x : Nat) => each (updB M C) k (p ++ [(x : Int)]) (max nx (x + 1)) s) (B := 9 ^ k) (nx + 1) s fun s x hx => each_count k _ _ s (by omega)
    have h2 : (nx + 1) * 9 ^ k ≤ 9 * 9 ^ k := mul9 (by omega)
    rw [Nat.pow_succ]; omega
theorem walk_count {M : List (List Int)} {C : List Con} : ∀ (k : Nat) (p : List Int) (nx : Nat) (cost : Int) (s : BS), nx + k ≤ 8 → (walkB M C k p nx cost s).count ≤ s.count + 9 ^ k
  | 0, p, nx, cost, s, _ => by
    rw [walkB]
    split
    · exact Nat.le_add_right _ _
    · unfold walkEnd
      split
      · show 1 ≤ _; omega
      · exact Nat.le_refl _
  | k + 1, p, nx, cost, s, h => by
    rw [walkB]
    split
    · exact Nat.le_add_right _ _
    · have h1 := foldl_count (g := fun s (x : Nat) => if badK C (p ++ [(x : Int)]) = true then s else walkB M C k (p ++ [(x : Int)]) (max nx (x + 1)) (cost + wadd M p x p.length) s) (B := 9 ^ k) (nx + 1) s fun s x hx => by
        show (if badK C (p ++ [(x : Int)]) = true then s else walkB M C k (p ++ [(x : Int)]) (max nx (x + 1)) (cost + wadd M p x p.length) s).count ≤ _
        split
        · exact Nat.le_add_right _ _
        · exact walk_count k _ _ _ s (by omega)
      have h2 : (nx + 1) * 9 ^ k ≤ 9 * 9 ^ k := mul9 (by omega)
      rw [Nat.pow_succ]; omega
end Go.Sh

/-
  Matrices in memory of their own: a block of rows, each row a block of scalars.
-/
namespace Go.Sh
set_option linter.unusedSimpArgs false
set_option linter.unusedVariables false
open Go Go.Proofs

/-- What a heap holds: a block; a matrix (its outer block b, its rows b+1, b+2, ..); rows under names of any kind; a name that is gone. -/
inductive Ent where
  | blk (k : Nat) (v : Blk)
  | mat (b : Nat) (R : List (List SV))
  | rows (fl : Bool) (nr : List (Nat × List SV))
  | cut (b : Nat)

def rowAt (R : List (List SV)) (i : Nat) : List SV := R.getD i []
def outerB (b : Nat) (R : List (List SV)) : List SV := (List.range R.length).map fun i => .own (b + 1 + i) 0 (rowAt R i).length (rowAt R i).length 1 false
def outerN (fl : Bool) (nr : List (Nat × List SV)) : List SV := nr.map fun p => .own p.1 0 p.2.length p.2.length 1 fl
def matMap (b : Nat) (R : List (List SV)) (x : Nat) : Option Blk := if x = b then some ⟨outerB b R, false⟩ else some ⟨rowAt R (x - b - 1), false⟩
def nrFind : List (Nat × List SV) → Nat → Option (List SV)
  | [], _ => none
  | p :: l, x => if x = p.1 then some p.2 else nrFind l x
def xmap : List Ent → Nat → Option Blk
  | [], _ => none
  | .blk k v :: l, x => if x = k then some v else xmap l x
  | .mat b R :: l, x => if b ≤ x ∧ x ≤ b + R.length then matMap b R x else xmap l x
  | .rows fl nr :: l, x => match nrFind nr x with
    | some r => some ⟨r, fl⟩
    | none => xmap l x
  | .cut b :: l, x => if x = b then none else xmap l x
def hx (l : List Ent) (n : Nat) : Heap := ⟨xmap l, n⟩
def toE (l : List (Nat × Blk)) : List Ent := l.map fun p => .blk p.1 p.2
theorem toE_nil : toE [] = [] := rfl
theorem toE_cons (k : Nat) (v : Blk) (l : List (Nat × Blk)) : toE ((k, v) :: l) = .blk k v :: toE l := rfl
theorem hp_hx (l : List (Nat × Blk)) (n : Nat) : hp l n = hx (toE l) n := by
  refine Heap.ext' (fun x => ?_) rfl
  show hmap l x = xmap (toE l) x
  induction l with
  | nil => rfl
  | cons p l ih =>
    obtain ⟨k, v⟩ := p
    simp only [toE_cons, hmap, xmap, ih]
theorem hx_nb (l : List Ent) (n : Nat) : (hx l n).nb = n := rfl
theorem hx_map (l : List Ent) (n x : Nat) : (hx l n).map x = xmap l x := rfl
theorem hx_push (l : List Ent) (n : Nat) (k : Blk) : (hx l n).push k = hx (.blk n k :: l) (n + 1) := rfl
theorem xmap_blk (k : Nat) (v : Blk) (l : List Ent) (x : Nat) : xmap (.blk k v :: l) x = if x = k then some v else xmap l x := rfl
theorem xmap_nil (x : Nat) : xmap [] x = none := rfl

def Heap.pushM (H : Heap) (R : List (List SV)) : Heap := ⟨fun x => if H.nb ≤ x ∧ x ≤ H.nb + R.length then matMap H.nb R x else H.map x, H.nb + R.length + 1⟩
theorem hx_pushM (l : List Ent) (n : Nat) (R : List (List SV)) : (hx l n).pushM R = hx (.mat n R :: l) (n + R.length + 1) := rfl
theorem hp_pushM (l : List (Nat × Blk)) (n : Nat) (R : List (List SV)) : (hp l n).pushM R = hx (.mat n R :: toE l) (n + R.length + 1) := by rw [hp_hx, hx_pushM]

def xset : List Ent → Nat → Blk → List Ent
  | [], b, x => [.blk b x]
  | .blk k v :: l, b, x => if k = b then .blk k x :: l else .blk k v :: xset l b x
  | .mat c R :: l, b, x => if c < b ∧ b ≤ c + R.length ∧ x.cells.length = (rowAt R (b - c - 1)).length ∧ x.ex = false then .mat c (R.set (b - c - 1) x.cells) :: l else if b < c ∨ c + R.length < b then .mat c R :: xset l b x else .blk b x :: .mat c R :: l
  | .rows fl nr :: l, b, x => .blk b x :: .rows fl nr :: l
  | .cut c :: l, b, x => .blk b x :: .cut c :: l
theorem rowAt_length {R : List (List SV)} {i : Nat} (h : i < R.length) : rowAt R i = R[i] := by simp [rowAt, h]
theorem outerB_set {b : Nat} {R : List (List SV)} {i : Nat} {r : List SV} (h : r.length = (rowAt R i).length) : outerB b (R.set i r) = outerB b R := by
  unfold outerB
  rw [List.length_set]
  refine List.map_congr_left (fun k hk => ?_)
  have hk : k < R.length := by simpa using hk
  have e : (rowAt (R.set i r) k).length = (rowAt R k).length := by
    rw [rowAt_length (by simpa using hk), rowAt_length hk, List.getElem_set]
    split
    · rename_i e; subst e
      rw [h, rowAt_length hk]
    · rfl
  rw [e]
theorem xmap_set : ∀ (l : List Ent) (b : Nat) (k : Blk) (x : Nat), (if x = b then some k else xmap l x) = xmap (xset l b k) x
  | [], b, k, x => by simp only [xset, xmap]
  | .blk c v :: l, b, k, x => by
    have ih := xmap_set l b k x
    simp only [xset]
    by_cases e : c = b
    · rw [if_pos e]
      subst e
      simp only [xmap]
      by_cases hx : x = c <;> simp [hx]
    · rw [if_neg e]
      simp only [xmap, ← ih]
      by_cases hx : x = b
      · subst hx
        rw [if_pos rfl, if_neg (by omega), if_pos rfl]
      · rw [if_neg hx, if_neg hx]
  | .mat c R :: l, b, k, x => by
    have ih := xmap_set l b k x
    simp only [xset]
    by_cases h : c < b ∧ b ≤ c + R.length ∧ k.cells.length = (rowAt R (b - c - 1)).length ∧ k.ex = false
    · rw [if_pos h]
      obtain ⟨h1, h2, h3, h4⟩ := h
      obtain ⟨kc, kx⟩ := k
      simp only at h3 h4
      subst h4
      simp only [xmap, List.length_set]
      by_cases hx : x = b
      · subst hx
        rw [if_pos rfl, if_pos (by omega), matMap, if_neg (by omega), rowAt_length (by simp; omega)]
        simp
      · rw [if_neg hx]
        by_cases hr : c ≤ x ∧ x ≤ c + R.length
        · rw [if_pos hr, if_pos hr, matMap, matMap, outerB_set h3]
          by_cases hc : x = c
          · rw [if_pos hc, if_pos hc]
          · rw [if_neg hc, if_neg hc]
            rw [rowAt_length (by omega), rowAt_length (by simp; omega), List.getElem_set_ne (by omega)]
        · rw [if_neg hr, if_neg hr]
    · rw [if_neg h]
      by_cases h2 : b < c ∨ c + R.length < b
      · rw [if_pos h2]
        simp only [xmap, ← ih]
        by_cases hx : x = b
        · subst hx
          rw [if_pos rfl, if_pos rfl, if_neg (by omega)]
        · rw [if_neg hx, if_neg hx]
      · rw [if_neg h2]
        rfl
  | .rows fl nr :: l, b, k, x => rfl
  | .cut c :: l, b, k, x => rfl
theorem hx_set (l : List Ent) (n b : Nat) (k : Blk) : (hx l n).set b (some k) = hx (xset l b k) n :=
  Heap.ext' (fun x => xmap_set l b k x) rfl
def xdel : List Ent → Nat → List Ent
  | [], _ => []
  | .blk k v :: l, b => if k = b then xdel l b else .blk k v :: xdel l b
  | .mat c R :: l, b => if b < c ∨ c + R.length < b then .mat c R :: xdel l b else .cut b :: .mat c R :: l
  | .rows fl nr :: l, b => .cut b :: .rows fl nr :: l
  | .cut c :: l, b => .cut b :: .cut c :: l
theorem xmap_del : ∀ (l : List Ent) (b : Nat) (x : Nat), (if x = b then none else xmap l x) = xmap (xdel l b) x
  | [], b, x => by simp only [xdel, xmap]; split <;> rfl
  | .blk c v :: l, b, x => by
    have ih := xmap_del l b x
    simp only [xdel]
    by_cases e : c = b
    · rw [if_pos e, ← ih]
      subst e
      simp only [xmap]
      by_cases hx : x = c <;> simp [hx]
    · rw [if_neg e]
      simp only [xmap, ← ih]
      by_cases hx : x = b
      · subst hx
        rw [if_pos rfl, if_neg (by omega), if_pos rfl]
      · rw [if_neg hx, if_neg hx]
  | .mat c R :: l, b, x => by
    have ih := xmap_del l b x
    simp only [xdel]
    by_cases h2 : b < c ∨ c + R.length < b
    · rw [if_pos h2]
      simp only [xmap, ← ih]
      by_cases hx : x = b
      · subst hx
        rw [if_pos rfl, if_pos rfl, if_neg (by omega)]
      · rw [if_neg hx, if_neg hx]
    · rw [if_neg h2]; rfl
  | .rows fl nr :: l, b, x => rfl
  | .cut c :: l, b, x => rfl
theorem hx_del (l : List Ent) (n b : Nat) : (hx l n).set b none = hx (xdel l b) n :=
  Heap.ext' (fun x => xmap_del l b x) rfl
theorem xdel_blk (k : Nat) (v : Blk) (l : List Ent) (b : Nat) : xdel (.blk k v :: l) b = if k = b then xdel l b else .blk k v :: xdel l b := rfl
theorem xdel_rows (fl : Bool) (nr : List (Nat × List SV)) (l : List Ent) (b : Nat) : xdel (.rows fl nr :: l) b = .cut b :: .rows fl nr :: l := rfl
theorem xdel_nil (b : Nat) : xdel [] b = [] := rfl
theorem xset_blk (k : Nat) (v : Blk) (l : List Ent) (b : Nat) (x : Blk) : xset (.blk k v :: l) b x = if k = b then .blk k x :: l else .blk k v :: xset l b x := rfl
theorem xset_nil (b : Nat) (x : Blk) : xset [] b x = [.blk b x] := rfl

/-! ### Of ints, of bools -/
def mset (M : List (List Int)) (i c : Nat) (x : Int) : List (List Int) := M.set i ((mrow M i).set c x)
def mi (M : List (List Int)) : List (List SV) := M.map ints
theorem mi_length (M : List (List Int)) : (mi M).length = M.length := by simp [mi]
theorem mi_row {M : List (List Int)} {i : Nat} (h : i < M.length) : rowAt (mi M) i = ints (mrow M i) := by simp [rowAt, mi, mrow, h]
theorem mset_length (M : List (List Int)) (i c : Nat) (x : Int) : (mset M i c x).length = M.length := by simp [mset]
theorem mset_row_length (M : List (List Int)) (i c k : Nat) (x : Int) : (mrow (mset M i c x) k).length = (mrow M k).length := by
  simp only [mrow, mset, List.getD_eq_getElem?_getD, List.getElem?_set]
  by_cases h : i = k
  · subst h
    by_cases h2 : i < M.length
    · simp [h2]
    · simp [h2]
  · simp [h]
def bools (L : List Bool) : List SV := L.map fun x => .val (.bool x)
theorem bools_length (L : List Bool) : (bools L).length = L.length := by simp [bools]
theorem bools_get {L : List Bool} {k : Nat} (h : k < L.length) : (bools L)[k]? = some (.val (.bool (L.getD k false))) := by simp [bools, h]
theorem bools_set (L : List Bool) (k : Nat) (x : Bool) : (bools L).set k (.val (.bool x)) = bools (L.set k x) := by simp [bools, List.map_set]
theorem bools_replicate (n : Nat) (x : Bool) : List.replicate n (SV.val (.bool x)) = bools (List.replicate n x) := by simp [bools]
theorem viewL_bools (H : Heap) (f : Nat) : ∀ L : List Bool, viewL H f (bools L) = some (bools L)
  | [] => viewL_nil_of
  | x :: L => viewL_cons_of view_bool (viewL_bools H f L)
theorem bools_vals (L : List Bool) : (bools L).all isVal = true := by simp [bools, isVal]
def brow (M : List (List Bool)) (i : Nat) : List Bool := M.getD i []
def bmat (M : List (List Bool)) (i k : Nat) : Bool := (brow M i).getD k false
def bset (M : List (List Bool)) (i c : Nat) (x : Bool) : List (List Bool) := M.set i ((brow M i).set c x)
def mb (M : List (List Bool)) : List (List SV) := M.map bools
theorem mb_length (M : List (List Bool)) : (mb M).length = M.length := by simp [mb]
theorem mb_row {M : List (List Bool)} {i : Nat} (h : i < M.length) : rowAt (mb M) i = bools (brow M i) := by simp [rowAt, mb, brow, h]
theorem bset_length (M : List (List Bool)) (i c : Nat) (x : Bool) : (bset M i c x).length = M.length := by simp [bset]
theorem bset_row_length (M : List (List Bool)) (i c k : Nat) (x : Bool) : (brow (bset M i c x) k).length = (brow M k).length := by
  simp only [brow, bset, List.getD_eq_getElem?_getD, List.getElem?_set]
  by_cases h : i = k
  · subst h
    by_cases h2 : i < M.length
    · simp [h2]
    · simp [h2]
  · simp [h]
def rowsB (M : List (List Bool)) : List SV := M.map fun r => .row r.length false (bools r)
def rb (M : List (List Bool)) : SV := .row M.length false (rowsB M)
theorem rb_eq (M : List (List Bool)) : rb M = .row M.length false (rowsB M) := rfl
theorem rowsB_length (M : List (List Bool)) : (rowsB M).length = M.length := by simp [rowsB]
theorem rowsB_get {M : List (List Bool)} {k : Nat} (h : k < M.length) : (rowsB M)[k]? = some (.row (brow M k).length false (bools (brow M k))) := by
  simp [rowsB, brow, h]

theorem mset_at (M : List (List Int)) (i c : Nat) (x : Int) {k d : Nat} (hi : i < M.length) (hc : c < (mrow M i).length) : mat (mset M i c x) k d = if k = i ∧ d = c then x else mat M k d := by
  simp only [mat, mrow, mset, List.getD_eq_getElem?_getD, List.getElem?_set]
  by_cases h : i = k
  · subst h
    simp only [hi, if_true, true_and, Option.getD_some, List.getElem?_set]
    by_cases h2 : c = d
    · subst h2
      simp only [mrow, List.getD_eq_getElem?_getD] at hc
      simp [hc]
    · have : ¬ d = c := fun e => h2 e.symm
      simp [h2, this]
  · have : ¬ k = i := fun e => h e.symm
    simp [h, this]
theorem bset_at (M : List (List Bool)) (i c : Nat) (x : Bool) {k d : Nat} (hi : i < M.length) (hc : c < (brow M i).length) : bmat (bset M i c x) k d = if k = i ∧ d = c then x else bmat M k d := by
  simp only [bmat, brow, bset, List.getD_eq_getElem?_getD, List.getElem?_set]
  by_cases h : i = k
  · subst h
    simp only [hi, if_true, true_and, Option.getD_some, List.getElem?_set]
    by_cases h2 : c = d
    · subst h2
      simp only [brow, List.getD_eq_getElem?_getD] at hc
      simp [hc]
    · have : ¬ d = c := fun e => h2 e.symm
      simp [h2, this]
  · have : ¬ k = i := fun e => h e.symm
    simp [h, this]

theorem outerB_length (b : Nat) (R : List (List SV)) : (outerB b R).length = R.length := by simp [outerB]
theorem xmap_mat (b : Nat) (R : List (List SV)) (l : List Ent) : xmap (.mat b R :: l) b = some ⟨outerB b R, false⟩ := by
  simp [xmap, matMap]
theorem xmap_rowI {b i : Nat} {M : List (List Int)} {l : List Ent} (h : i < M.length) : xmap (.mat b (mi M) :: l) (b + 1 + i) = some ⟨ints (mrow M i), false⟩ := by
  rw [xmap, if_pos (by rw [mi_length]; omega), matMap, if_neg (by omega), ← mi_row h]
  congr 3; omega
theorem xmap_rowB {b i : Nat} {M : List (List Bool)} {l : List Ent} (h : i < M.length) : xmap (.mat b (mb M) :: l) (b + 1 + i) = some ⟨bools (brow M i), false⟩ := by
  rw [xmap, if_pos (by rw [mb_length]; omega), matMap, if_neg (by omega), ← mb_row h]
  congr 3; omega
theorem xmap_skipI {b x : Nat} {M : List (List Int)} {l : List Ent} (h : x < b ∨ b + M.length < x) : xmap (.mat b (mi M) :: l) x = xmap l x := by
  rw [xmap, if_neg (by rw [mi_length]; omega)]
theorem xmap_skipB {b x : Nat} {M : List (List Bool)} {l : List Ent} (h : x < b ∨ b + M.length < x) : xmap (.mat b (mb M) :: l) x = xmap l x := by
  rw [xmap, if_neg (by rw [mb_length]; omega)]
theorem outerB_getI {b k : Nat} {M : List (List Int)} (h : k < M.length) : (outerB b (mi M))[k]? = some (.own (b + 1 + k) 0 (mrow M k).length (mrow M k).length 1 false) := by
  simp only [outerB, List.getElem?_map, mi_length]
  rw [List.getElem?_range h]
  simp only [Option.map_some, mi_row h, ints_length]
theorem outerB_getB {b k : Nat} {M : List (List Bool)} (h : k < M.length) : (outerB b (mb M))[k]? = some (.own (b + 1 + k) 0 (brow M k).length (brow M k).length 1 false) := by
  simp only [outerB, List.getElem?_map, mb_length]
  rw [List.getElem?_range h]
  simp only [Option.map_some, mb_row h, bools_length]
theorem xset_rowI {b i c : Nat} {x : Int} {M : List (List Int)} {l : List Ent} (h : i < M.length) : xset (.mat b (mi M) :: l) (b + 1 + i) ⟨ints ((mrow M i).set c x), false⟩ = .mat b (mi (mset M i c x)) :: l := by
  have e : b + 1 + i - b - 1 = i := by omega
  rw [xset, e, if_pos ⟨by omega, by rw [mi_length]; omega, by rw [mi_row h, ints_length, ints_length, List.length_set], rfl⟩]
  simp [mset, mi, List.map_set]
theorem xset_rowB {b i c : Nat} {x : Bool} {M : List (List Bool)} {l : List Ent} (h : i < M.length) : xset (.mat b (mb M) :: l) (b + 1 + i) ⟨bools ((brow M i).set c x), false⟩ = .mat b (mb (bset M i c x)) :: l := by
  have e : b + 1 + i - b - 1 = i := by omega
  rw [xset, e, if_pos ⟨by omega, by rw [mb_length]; omega, by rw [mb_row h, bools_length, bools_length, List.length_set], rfl⟩]
  simp [bset, mb, List.map_set]
theorem xset_skipI {b x : Nat} {M : List (List Int)} {l : List Ent} {k : Blk} (h : x < b ∨ b + M.length < x) : xset (.mat b (mi M) :: l) x k = .mat b (mi M) :: xset l x k := by
  rw [xset, if_neg (by rw [mi_length]; omega), if_pos (by rw [mi_length]; exact h)]
theorem xset_skipB {b x : Nat} {M : List (List Bool)} {l : List Ent} {k : Blk} (h : x < b ∨ b + M.length < x) : xset (.mat b (mb M) :: l) x k = .mat b (mb M) :: xset l x k := by
  rw [xset, if_neg (by rw [mb_length]; omega), if_pos (by rw [mb_length]; exact h)]

/-! ### A round's end -/
def EntIn (H : Heap) : Ent → Prop
  | .blk k v => H.map k = some v
  | .mat b R => ∀ x, b ≤ x → x ≤ b + R.length → H.map x = matMap b R x
  | .rows fl nr => ∀ p ∈ nr, H.map p.1 = some ⟨p.2, fl⟩
  | .cut b => H.map b = none
theorem nrFind_mem : ∀ {nr : List (Nat × List SV)} {x : Nat} {r : List SV}, nrFind nr x = some r → (x, r) ∈ nr
  | [], x, r, h => by simp [nrFind] at h
  | p :: l, x, r, h => by
    rw [nrFind] at h
    split at h
    · rename_i e; subst e
      simp at h; subst h; simp
    · exact List.mem_cons_of_mem _ (nrFind_mem h)
theorem Wk.ofX {s : St} {l : List (Nat × SV)} {lb : List Ent} {n : Nat} (h : ∀ p ∈ l, s.σ p.1 = p.2) (hm : ∀ e ∈ lb, EntIn s.H e) (hn : s.H.nb ≤ n) : Wk s ⟨ofL l, hx lb n⟩ := by
  refine ⟨ofL_wk h, hn, fun b => ?_⟩
  show xmap lb b = none ∨ xmap lb b = s.H.map b
  clear h hn
  induction lb with
  | nil => exact .inl rfl
  | cons q lb ih =>
    have ih := ih (fun e he => hm e (by simp [he]))
    have hq := hm q (by simp)
    cases q with
    | blk k v =>
      rw [xmap]
      split
      · rename_i e; subst e; exact .inr hq.symm
      · exact ih
    | mat c R =>
      rw [xmap]
      split
      · rename_i e; exact .inr (hq b e.1 e.2).symm
      · exact ih
    | rows fl nr =>
      rw [xmap]
      split
      · rename_i r hr
        exact .inr (hq _ (nrFind_mem hr)).symm
      · exact ih
    | cut c =>
      rw [xmap]
      split
      · exact .inl rfl
      · exact ih
theorem EntIn.self {b : Nat} {R : List (List SV)} {l : List Ent} {n : Nat} : EntIn (hx (.mat b R :: l) n) (.mat b R) := by
  intro x h1 h2
  rw [hx_map, xmap, if_pos ⟨h1, h2⟩]
theorem EntIn.skipM {b k n : Nat} {v : Blk} {R : List (List SV)} {l : List Ent} (h : EntIn (hx l n) (.mat b R)) (hk : k < b ∨ b + R.length < k) : EntIn (hx (.blk k v :: l) n) (.mat b R) := by
  intro x h1 h2
  rw [hx_map, xmap, if_neg (by omega)]
  exact h x h1 h2
theorem EntIn.skipMM {b c n : Nat} {R S : List (List SV)} {l : List Ent} (h : EntIn (hx l n) (.mat b R)) (hk : c + S.length < b ∨ b + R.length < c) : EntIn (hx (.mat c S :: l) n) (.mat b R) := by
  intro x h1 h2
  rw [hx_map, xmap, if_neg (by omega)]
  exact h x h1 h2
theorem EntIn.skipR {k n : Nat} {v : Blk} {fl : Bool} {nr : List (Nat × List SV)} {l : List Ent} (h : EntIn (hx l n) (.rows fl nr)) (hk2 : ∀ p ∈ nr, p.1 ≠ k) : EntIn (hx (.blk k v :: l) n) (.rows fl nr) := by
  intro p hp
  rw [hx_map, xmap, if_neg (hk2 p hp)]; exact h p hp
theorem EntIn.skipC {k n : Nat} {fl : Bool} {nr : List (Nat × List SV)} {l : List Ent} (h : EntIn (hx l n) (.rows fl nr)) (hk2 : ∀ p ∈ nr, p.1 ≠ k) : EntIn (hx (.cut k :: l) n) (.rows fl nr) := by
  intro p hp
  rw [hx_map, xmap, if_neg (hk2 p hp)]; exact h p hp
theorem EntIn.snoc {H : Heap} {b : Nat} {r : List SV} {fl : Bool} {nr : List (Nat × List SV)} (h : EntIn H (.rows fl nr)) (h2 : H.map b = some ⟨r, fl⟩) : EntIn H (.rows fl (nr ++ [(b, r)])) := by
  intro p hp
  rcases List.mem_append.1 hp with hp | hp
  · exact h p hp
  · simp at hp; subst hp; exact h2
theorem outerN_snoc (fl : Bool) (nr : List (Nat × List SV)) (b : Nat) (r : List SV) : outerN fl (nr ++ [(b, r)]) = outerN fl nr ++ [.own b 0 r.length r.length 1 fl] := by simp [outerN]
theorem outerN_length (fl : Bool) (nr : List (Nat × List SV)) : (outerN fl nr).length = nr.length := by simp [outerN]
theorem outerN_flat (fl : Bool) (nr : List (Nat × List SV)) : (outerN fl nr).all flat = true := by simp [outerN, flat]
/-- No name twice. -/
def NrOk (b nb : Nat) (nr : List (Nat × List SV)) : Prop := b < nb ∧ (∀ p ∈ nr, p.1 < nb ∧ p.1 ≠ b) ∧ (nr.map (·.1)).Nodup
theorem nrFind_get : ∀ {nr : List (Nat × List SV)} {p : Nat × List SV}, (nr.map (·.1)).Nodup → p ∈ nr → nrFind nr p.1 = some p.2
  | [], p, _, h => by simp at h
  | q :: l, p, hn, h => by
    simp only [List.map_cons, List.nodup_cons] at hn
    rw [nrFind]
    rcases List.mem_cons.1 h with rfl | h
    · rw [if_pos rfl]
    · rw [if_neg (fun e => hn.1 (by rw [← e]; exact List.mem_map_of_mem h))]
      exact nrFind_get hn.2 h
theorem EntIn.selfR {n : Nat} {fl : Bool} {nr : List (Nat × List SV)} {l : List Ent} (h : (nr.map (·.1)).Nodup) : EntIn (hx (.rows fl nr :: l) n) (.rows fl nr) := by
  intro p hp
  rw [hx_map, xmap, nrFind_get h hp]
theorem NrOk.nil {b nb : Nat} (h : b < nb) : NrOk b nb [] := ⟨h, by simp, by simp⟩
theorem NrOk.snoc {b nb b' nb' x : Nat} {r : List SV} {nr : List (Nat × List SV)} (h : NrOk b nb nr) (h1 : nb ≤ x) (h2 : nb ≤ b') (h3 : x ≠ b') (h4 : x < nb') (h5 : b' < nb') : NrOk b' nb' (nr ++ [(x, r)]) := by
  refine ⟨h5, fun p hp => ?_, ?_⟩
  · rcases List.mem_append.1 hp with hp | hp
    · have := (h.2.1 p hp).1; omega
    · simp at hp; subst hp; exact ⟨h4, h3⟩
  · rw [List.map_append, List.nodup_append]
    refine ⟨h.2.2, by simp, ?_⟩
    intro a ha c hc
    obtain ⟨p, hp, rfl⟩ := List.mem_map.1 ha
    simp at hc; subst hc
    have := (h.2.1 p hp).1; omega

/-! ### Results -/
def MatRes (R : List (List SV)) (r : SV) (H : Heap) : Prop :=
  ∃ (b off cap : Nat) (ex : Bool) (blk : Blk), r = .own b off R.length cap 1 ex ∧ H.map b = some blk ∧ off + R.length ≤ blk.cells.length ∧ (∀ row ∈ R, row.all isVal = true) ∧
    ∃ nm oi : Nat → Nat, (∀ i i', i < R.length → i' < R.length → nm i = nm i' → i = i') ∧ (∀ i, i < R.length → nm i ≠ b) ∧
      ∀ i, i < R.length → ∃ capi exi blki, blk.cells[off + i]? = some (.own (nm i) (oi i) (rowAt R i).length capi 1 exi) ∧ H.map (nm i) = some blki ∧ (blki.cells.drop (oi i)).take (rowAt R i).length = rowAt R i ∧ oi i + (rowAt R i).length ≤ blki.cells.length
def MatOne (R : List (List SV)) (r : SV) (H : Heap) : Prop := r = .own 0 0 R.length R.length 1 false ∧ H = hx [.mat 0 R] (R.length + 1)

theorem outerB_get {b k : Nat} {R : List (List SV)} (h : k < R.length) : (outerB b R)[k]? = some (.own (b + 1 + k) 0 (rowAt R k).length (rowAt R k).length 1 false) := by
  simp only [outerB, List.getElem?_map]
  rw [List.getElem?_range h]
  rfl
theorem rowAt_mem {R : List (List SV)} {i : Nat} (h : i < R.length) : rowAt R i ∈ R := by rw [rowAt_length h]; exact List.getElem_mem h
theorem own_zero {O : Nat → Prop} {w : World} {j : JMap} {v : Value} {b off n cap sz : Nat} {ex : Bool} {rb base : Nat} (h : VRel O w j (.own b off n cap sz ex) v) (hj : j b = some (rb, base)) {j' : JMap} {b' : Nat} {O' : Nat → Prop} (hj' : j' b' = some (rb, base + off)) :
    VRel O' w j' (.own b' 0 n n sz false) v := by
  simp only [VRel] at h ⊢
  obtain ⟨rb', base', a, cap', c, e, fr, g1, g2, g3, g4, g5, g6, g7, g8⟩ := h
  rw [hj] at g1
  obtain ⟨rfl, rfl⟩ := (by simpa using g1 : rb = rb' ∧ base = base')
  exact ⟨rb, base + off, a, cap', c, e, fr, hj', g2, Nat.le_refl _, by omega, by simp, by simpa using g6, g7, by simpa using g8⟩

theorem mat_rel {R : List (List SV)} {j : JMap} {H : Heap} {w : World} {r : SV} {v : Value} (h : MatRes R r H) (hr : Rel j H w) (hv : VRel (OwnR j H) w j r v) :
    ∃ j', Rel j' (hx [.mat 0 R] (R.length + 1)) w ∧ VRel (OwnR j' (hx [.mat 0 R] (R.length + 1))) w j' (.own 0 0 R.length R.length 1 false) v ∧ ∀ k, OwnR j' (hx [.mat 0 R] (R.length + 1)) k → OwnR j H k := by
  obtain ⟨b, off, cap, ex, blk, rfl, hb, hlen, hval, nm, oi, hinj, hne, hrow⟩ := h
  obtain ⟨rb, base, k1, hat⟩ := hr.live b blk hb
  let j' : JMap := fun x => if x = 0 then some (rb, base + off) else if x ≤ R.length then (j (nm (x - 1))).map (fun p => (p.1, p.2 + oi (x - 1))) else none
  have j0 : j' 0 = some (rb, base + off) := rfl
  have jr : ∀ i, i < R.length → ∃ rbi basei, j (nm i) = some (rbi, basei) ∧ j' (0 + 1 + i) = some (rbi, basei + oi i) := by
    intro i hi
    obtain ⟨capi, exi, blki, q1, q2, q3, q4⟩ := hrow i hi
    obtain ⟨rbi, basei, p1, _⟩ := hr.live _ blki q2
    refine ⟨rbi, basei, p1, ?_⟩
    show (if 0 + 1 + i = 0 then _ else if 0 + 1 + i ≤ R.length then (j (nm (0 + 1 + i - 1))).map _ else none) = _
    have e : 0 + 1 + i - 1 = i := by omega
    rw [if_neg (by omega), if_pos (by omega), e, p1]
    rfl
  have hm0 : (hx [.mat 0 R] (R.length + 1)).map 0 = some ⟨outerB 0 R, false⟩ := by rw [hx_map, xmap_mat]
  have hmr : ∀ i, i < R.length → (hx [.mat 0 R] (R.length + 1)).map (0 + 1 + i) = some ⟨rowAt R i, false⟩ := by
    intro i hi
    rw [hx_map, xmap, if_pos (by omega), matMap, if_neg (by omega)]
    congr 3; omega
  have hms : ∀ x bl, (hx [.mat 0 R] (R.length + 1)).map x = some bl → (x = 0 ∧ bl = ⟨outerB 0 R, false⟩) ∨ ∃ i, i < R.length ∧ x = 0 + 1 + i ∧ bl = ⟨rowAt R i, false⟩ := by
    intro x bl hx
    rw [hx_map, xmap] at hx
    split at hx
    · rename_i hr
      rw [matMap] at hx
      split at hx
      · rename_i h0
        simp at hx
        exact .inl ⟨h0, hx.symm⟩
      · rename_i h0
        simp at hx
        exact .inr ⟨x - 1, by omega, by omega, hx.symm⟩
    · simp [xmap] at hx
  have hback : ∀ k, OwnR j' (hx [.mat 0 R] (R.length + 1)) k → OwnR j H k := by
    rintro k ⟨x, bl, bs, h1, h2⟩
    rcases hms x bl h1 with ⟨rfl, rfl⟩ | ⟨i, hi, rfl, rfl⟩
    · rw [j0] at h2
      simp at h2
      obtain ⟨rfl, _⟩ := h2
      exact ⟨b, blk, base, hb, k1⟩
    · obtain ⟨rbi, basei, p1, p2⟩ := jr i hi
      rw [p2] at h2
      simp at h2
      obtain ⟨rfl, _⟩ := h2
      obtain ⟨capi, exi, blki, q1, q2, q3, q4⟩ := hrow i hi
      exact ⟨nm i, blki, basei, q2, p1⟩
  refine ⟨j', ⟨?_, ?_, ?_⟩, own_zero hv k1 j0, hback⟩
  · intro x p hp
    show x < R.length + 1
    by_cases h0 : x = 0
    · omega
    · have : (if x = 0 then some (rb, base + off) else if x ≤ R.length then (j (nm (x - 1))).map (fun p => (p.1, p.2 + oi (x - 1))) else none) = some p := hp
      rw [if_neg h0] at this
      split at this
      · omega
      · simp at this
  · intro x bl hx
    obtain ⟨c, e, lo, hi', q2, q3, q4, q5, q6⟩ := hat
    rcases hms x bl hx with ⟨rfl, rfl⟩ | ⟨i, hi, rfl, rfl⟩
    · refine ⟨rb, base + off, j0, c, e, lo, hi', q2, q3, ?_, by simp, ?_⟩
      · show base + off + (outerB 0 R).length ≤ c.size
        rw [outerB_length]; omega
      · intro i s hs
        have hs' : (outerB 0 R)[i]? = some s := hs
        have hi : i < R.length := by
          have := (List.getElem?_eq_some_iff.1 hs').1
          rwa [outerB_length] at this
        rw [outerB_get hi] at hs'
        simp at hs'
        subst hs'
        obtain ⟨capi, exi, blki, p1, p2, p3, p4⟩ := hrow i hi
        obtain ⟨u, g1, g2⟩ := q6 (off + i) _ p1
        obtain ⟨rbi, basei, t1, t2⟩ := jr i hi
        exact ⟨u, by simpa [Nat.add_assoc] using g1, by simpa only [Nat.zero_add] using own_zero g2 t1 t2⟩
    · obtain ⟨capi, exi, blki, p1, p2, p3, p4⟩ := hrow i hi
      obtain ⟨rbi, basei, t1, t2⟩ := jr i hi
      obtain ⟨rbi', basei', s1, c', e', lo', hi2, s2, s3, s4, s5, s6⟩ := hr.live _ blki p2
      rw [t1] at s1
      obtain ⟨rfl, rfl⟩ := (by simpa using s1 : rbi = rbi' ∧ basei = basei')
      refine ⟨rbi, basei + oi i, t2, c', e', lo', hi2, s2, s3, ?_, by simp, ?_⟩
      · show basei + oi i + (rowAt R i).length ≤ c'.size
        omega
      · intro k s hs
        have hs' : (rowAt R i)[k]? = some s := hs
        have hk : k < (rowAt R i).length := (List.getElem?_eq_some_iff.1 hs').1
        rw [← p3, List.getElem?_take, if_pos hk, List.getElem?_drop] at hs'
        obtain ⟨u, g1, g2⟩ := s6 (oi i + k) s hs'
        refine ⟨u, by simpa [Nat.add_assoc] using g1, ?_⟩
        have hsv : isVal s = true := (List.all_eq_true.1 (hval _ (rowAt_mem hi))) s (List.mem_of_getElem? hs)
        obtain ⟨z, rfl⟩ := isVal_of hsv
        simpa only [VRel] using g2
  · intro x x' bl bl' rb1 ba ba' h1 h2 h3 h4
    rcases hms x bl h1 with ⟨rfl, rfl⟩ | ⟨i, hi, rfl, rfl⟩ <;> rcases hms x' bl' h2 with ⟨rfl, rfl⟩ | ⟨i', hi', rfl, rfl⟩
    · rfl
    · obtain ⟨rbi, basei, t1, t2⟩ := jr i' hi'
      obtain ⟨capi, exi, blki, p1, p2, p3, p4⟩ := hrow i' hi'
      rw [j0] at h3
      rw [t2] at h4
      simp at h3 h4
      obtain ⟨rfl, _⟩ := h3
      obtain ⟨rfl, _⟩ := h4
      exact absurd (hr.inj _ _ _ _ _ _ _ p2 hb t1 k1) (hne i' hi')
    · obtain ⟨rbi, basei, t1, t2⟩ := jr i hi
      obtain ⟨capi, exi, blki, p1, p2, p3, p4⟩ := hrow i hi
      rw [j0] at h4
      rw [t2] at h3
      simp at h3 h4
      obtain ⟨rfl, _⟩ := h3
      obtain ⟨rfl, _⟩ := h4
      exact absurd (hr.inj _ _ _ _ _ _ _ p2 hb t1 k1) (hne i hi)
    · obtain ⟨rbi, basei, t1, t2⟩ := jr i hi
      obtain ⟨capi, exi, blki, p1, p2, p3, p4⟩ := hrow i hi
      obtain ⟨rbi', basei', t1', t2'⟩ := jr i' hi'
      obtain ⟨capi', exi', blki', p1', p2', p3', p4'⟩ := hrow i' hi'
      rw [t2] at h3
      rw [t2'] at h4
      simp at h3 h4
      obtain ⟨rfl, _⟩ := h3
      obtain ⟨rfl, _⟩ := h4
      rw [hinj i i' hi hi' (hr.inj _ _ _ _ _ _ _ p2 p2' t1 t1')]

theorem outerB_nr (b : Nat) (R : List (List SV)) : noRowL (outerB b R) = true := by
  unfold outerB
  generalize List.range R.length = l
  induction l with
  | nil => rfl
  | cons a l ih => simp only [List.map_cons, noRowL, ih, Bool.and_true, noRow]
theorem mat_nr {b n : Nat} {R : List (List SV)} (h : ∀ row ∈ R, row.all isVal = true) : nrHeap (hx [.mat b R] n) := by
  intro x blk hb
  rw [hx_map, xmap] at hb
  split at hb
  · rename_i hr
    rw [matMap] at hb
    split at hb
    · simp at hb; subst hb; exact outerB_nr b R
    · rename_i h0
      simp at hb; subst hb
      exact isVal_noRow (h _ (rowAt_mem (by omega)))
  · simp [xmap] at hb
theorem MatRes.vals {R : List (List SV)} {r : SV} {H : Heap} (h : MatRes R r H) : ∀ row ∈ R, row.all isVal = true := by
  obtain ⟨b, off, cap, ex, blk, _, _, _, h5, _⟩ := h
  exact h5
variable {P : Program}
theorem FCall.mat {f : FuncId} {args : List SV} {R : List (List SV)} (h : FCall P f args (MatRes R)) : FCall P f args (MatOne R) := by
  refine ⟨h.1, fun w vs hl => (h.2 w vs hl).mono ?_⟩
  rintro e w' ⟨v, r, j, H, h1, h2, h3, h4, h5, h6, h7, h8⟩
  obtain ⟨j', r', v', o'⟩ := mat_rel h8 h3 h4
  exact ⟨v, _, j', _, h1, h2, r', v', fun k hk => h5 k (o' k hk), rfl, mat_nr h8.vals, rfl, rfl⟩
theorem merge_mat {j : JMap} {H : Heap} {w : World} (r : Rel j H w) {R : List (List SV)} (h : ∀ row ∈ R, row.all isVal = true) : H.merge (hx [.mat 0 R] (R.length + 1)) = H.pushM R := by
  refine Heap.ext' (fun x => ?_) (by simp only [Heap.merge, Heap.pushM, hx]; omega)
  simp only [Heap.merge, Heap.pushM, hx_map, xmap]
  by_cases h1 : x < H.nb
  · rw [if_pos h1, if_neg (by omega)]
  · rw [if_neg h1]
    by_cases h2 : x ≤ H.nb + R.length
    · rw [if_pos (by omega), if_pos (by omega), matMap, matMap]
      by_cases h3 : x = H.nb
      · subst h3
        rw [if_pos (by omega), if_pos rfl]
        simp only [Option.map_some]
        congr 2
        unfold outerB
        generalize List.range R.length = l
        induction l with
        | nil => rfl
        | cons a l ih =>
          simp only [List.map_cons, shiftL, ih, shift]
          congr 2; omega
      · rw [if_neg (by omega), if_neg h3]
        simp only [Option.map_some]
        have e : x - H.nb - 0 - 1 = x - H.nb - 1 := by omega
        rw [e, isVal_shift (h _ (rowAt_mem (by omega)))]
    · rw [if_neg (by omega), if_neg (by omega), r.fresh (by omega)]
      rfl
/-- A call that gives back a matrix in memory of its own. -/
theorem FCall.callMat {f : FuncId} {args args' : List SV} {R : List (List SV)} {H : Heap} {K : SV → Heap → Prop} (h : FCall P f args' (MatOne R)) (hc : ∀ row ∈ R, row.all isVal = true) (fu : Nat) (hv : viewL H fu args = some args')
    (k : K (.own H.nb 0 R.length R.length 1 false) (H.pushM R)) : @CallX P f args H ⟨K⟩ := by
  refine ⟨h.1, fun j w vs r hl => ((h.callS fu hv).2 j w vs r hl).mono ?_⟩
  rintro e w' ⟨r1, v, j', H', h1, h2, h3, h4, r0, H0, ⟨rfl, rfl⟩, rfl, rfl⟩
  refine ⟨_, v, j', _, h1, h2, h3, h4, ?_⟩
  rw [merge_mat r hc]
  simpa only [shift, Nat.zero_add] using k
theorem mi_vals (M : List (List Int)) : ∀ row ∈ mi M, row.all isVal = true := by
  intro row h
  obtain ⟨l, _, rfl⟩ := List.mem_map.1 h
  exact ints_vals l
theorem mb_vals (M : List (List Bool)) : ∀ row ∈ mb M, row.all isVal = true := by
  intro row h
  obtain ⟨l, _, rfl⟩ := List.mem_map.1 h
  exact bools_vals l

/-! ### Seen as contents -/
theorem view_mat {H : Heap} {b n f cap : Nat} {ex : Bool} {R : List (List SV)} (h : EntIn H (.mat b R)) (hn : n = R.length) (hv : ∀ i, i < R.length → viewL H f (rowAt R i) = some (rowAt R i)) :
    view H (f + 2) (.own b 0 n cap 1 ex) = some (.row n false (R.map fun r => .row r.length false r)) := by
  subst hn
  have h0 : H.map b = some ⟨outerB b R, false⟩ := by rw [h b (by omega) (by omega), matMap, if_pos rfl]
  simp only [view, h0, Nat.mul_one, List.drop_zero, outerB_length, Nat.zero_add, Nat.le_refl, if_true]
  have e : (outerB b R).take R.length = outerB b R := List.take_of_length_le (by rw [outerB_length]; exact Nat.le_refl _)
  rw [e, outerB, viewL_fn (h := fun i => .row (rowAt R i).length false (rowAt R i)) _ (fun i hi => ?_)]
  · have : (List.range R.length).map (fun i => SV.row (rowAt R i).length false (rowAt R i)) = R.map fun r => .row r.length false r := by
      apply List.ext_getElem?
      intro i
      simp only [List.getElem?_map]
      by_cases hi : i < R.length
      · rw [List.getElem?_range hi, List.getElem?_eq_getElem hi, ← rowAt_length hi]; rfl
      · have : (List.range R.length)[i]? = none := by simp; omega
        rw [this, List.getElem?_eq_none (by omega : R.length ≤ i)]; rfl
    rw [this]
  · have hi' : i < R.length := by simpa using hi
    have hm : H.map (b + 1 + i) = some ⟨rowAt R i, false⟩ := by
      rw [h (b + 1 + i) (by omega) (by omega), matMap, if_neg (by omega)]
      congr 3; omega
    simp only [view, hm, Nat.mul_one, List.drop_zero, Nat.zero_add, Nat.le_refl, if_true, List.take_length, hv i hi']
theorem view_mi {H : Heap} {b n f cap : Nat} {ex : Bool} {M : List (List Int)} (h : EntIn H (.mat b (mi M))) (hn : n = M.length) : view H (f + 2) (.own b 0 n cap 1 ex) = some (rr M) := by
  rw [view_mat h (by rw [hn, mi_length]) (fun i hi => by rw [mi_row (by rwa [mi_length] at hi)]; exact viewL_ints _ _ _)]
  subst hn
  simp only [rr, rows, mi, List.map_map]
  congr 2
  exact List.map_congr_left (fun r _ => by simp [ri, ints_length])
theorem view_mb {H : Heap} {b n f cap : Nat} {ex : Bool} {M : List (List Bool)} (h : EntIn H (.mat b (mb M))) (hn : n = M.length) : view H (f + 2) (.own b 0 n cap 1 ex) = some (rb M) := by
  rw [view_mat h (by rw [hn, mb_length]) (fun i hi => by rw [mb_row (by rwa [mb_length] at hi)]; exact viewL_bools _ _ _)]
  subst hn
  simp only [rb, rowsB, mb, List.map_map]
  congr 2
  exact List.map_congr_left (fun r _ => by simp [bools_length])
theorem MatOne.viewI {M : List (List Int)} {r : SV} {H : Heap} (h : MatOne (mi M) r H) : view H 2 r = some (rr M) := by
  obtain ⟨rfl, rfl⟩ := h
  exact view_mi EntIn.self (mi_length M)
theorem MatOne.viewB {M : List (List Bool)} {r : SV} {H : Heap} (h : MatOne (mb M) r H) : view H 2 r = some (rb M) := by
  obtain ⟨rfl, rfl⟩ := h
  exact view_mb EntIn.self (mb_length M)
theorem rows_res {b nb : Nat} {fl : Bool} {nr : List (Nat × List SV)} {H : Heap} (h : NrOk b nb nr) (hv : ∀ p ∈ nr, p.2.all isVal = true) (h1 : H.map b = some ⟨outerN fl nr, false⟩) (h2 : EntIn H (.rows fl nr)) : MatRes (nr.map (·.2)) (.own b 0 nr.length nr.length 1 false) H := by
  have hl : (nr.map (·.2)).length = nr.length := by simp
  refine ⟨b, 0, nr.length, false, _, by rw [hl], h1, by rw [hl, outerN_length]; omega, ?_, fun i => (nr.getD i (0, [])).1, fun _ => 0, ?_, ?_, ?_⟩
  · intro row hr
    obtain ⟨p, hp, rfl⟩ := List.mem_map.1 hr
    exact hv p hp
  · intro i i' hi hi' he
    rw [hl] at hi hi'
    have hn := h.2.2
    have hi2 : i < (nr.map (·.1)).length := by simpa using hi
    have hi2' : i' < (nr.map (·.1)).length := by simpa using hi'
    have e1 : (nr.getD i (0, [])).1 = (nr.map (·.1))[i] := by simp [hi]
    have e2 : (nr.getD i' (0, [])).1 = (nr.map (·.1))[i'] := by simp [hi']
    simp only [] at he
    rw [e1, e2] at he
    have hpw := List.pairwise_iff_getElem.1 hn
    rcases Nat.lt_trichotomy i i' with g | g | g
    · exact absurd he (hpw i i' hi2 hi2' g)
    · exact g
    · exact absurd he.symm (hpw i' i hi2' hi2 g)
  · intro i hi
    rw [hl] at hi
    have : nr.getD i (0, []) ∈ nr := by simp [hi]
    exact (h.2.1 _ this).2
  · intro i hi
    rw [hl] at hi
    have hm : nr.getD i (0, []) ∈ nr := by simp [hi]
    have hr : rowAt (nr.map (·.2)) i = (nr.getD i (0, [])).2 := by simp [rowAt, hi]
    refine ⟨(rowAt (nr.map (·.2)) i).length, fl, ⟨(nr.getD i (0, [])).2, fl⟩, ?_, h2 _ hm, ?_, ?_⟩
    · rw [hr]; simp [outerN, hi]
    · rw [hr]; simp
    · rw [hr]; simp
/-- At a body's end: rows under names of any kind. -/
theorem fin_rows {b nb : Nat} {fl : Bool} {nr : List (Nat × List SV)} {H : Heap} {R : List (List SV)} (h : NrOk b nb nr) (hv : ∀ p ∈ nr, p.2.all isVal = true) (h1 : H.map b = some ⟨outerN fl nr, false⟩) (h2 : EntIn H (.rows fl nr)) (hR : R = nr.map (·.2)) :
    Fin (MatRes R) (.own b 0 nr.length nr.length 1 false) H := by
  subst hR
  have hne : ∀ p ∈ nr, p.1 ≠ b := fun p hp => (h.2.1 p hp).2
  refine ⟨hx [.blk b ⟨outerN fl nr, false⟩, .rows fl nr] H.nb, ⟨rfl, fun x => ?_⟩, rfl, ?_, rows_res h hv (by rw [hx_map, xmap, if_pos rfl]) ((EntIn.selfR h.2.2).skipR hne)⟩
  · rw [hx_map, xmap]
    by_cases hx : x = b
    · subst hx; rw [if_pos rfl]; exact .inr h1.symm
    · rw [if_neg hx, xmap]
      split
      · rename_i r hr
        exact .inr (h2 _ (nrFind_mem hr)).symm
      · exact .inl rfl
  · intro x blk hb
    rw [hx_map, xmap] at hb
    split at hb
    · simp at hb; subst hb
      show noRowL (outerN fl nr) = true
      unfold outerN
      clear h hv h1 h2 hne
      induction nr with
      | nil => rfl
      | cons a l ih => simp only [List.map_cons, noRowL, ih, Bool.and_true, noRow]
    · rw [xmap] at hb
      split at hb
      · rename_i r hr
        simp at hb; subst hb
        exact isVal_noRow (hv _ (nrFind_mem hr))
      · simp [xmap] at hb
attribute [go_sem] hx_del xdel_blk xdel_rows xdel_nil hx_nb hx_map hx_push hx_set hx_pushM hp_pushM toE_nil toE_cons xmap_blk xmap_nil xmap_mat xset_blk xset_nil mi_length mb_length outerB_length bools_length
end Go.Sh
