/-
  From the values that came in to the shadow's: slices of numbers.
-/
import Derived.Test.YtehimkdkflnkbaaShL
import Derived.Test.YtehimkdkflnkbaaRows
import Derived.WalkKit
import Derived.ProofKit
import Derived.OpenShut
import Derived.ShutString
import Derived.ChangeOld
import Derived.Below
import Derived.Deep.Slices
namespace Go.Sh
set_option linter.unusedSimpArgs false
set_option linter.unusedVariables false
open Go Go.RowKit

/-- A slice of numbers that came in, as the machine's memory has it. -/
def IsRow (k : IntKind) (w : World) (a : Option Addr) (len cap : Nat) (zs : List Int) : Prop :=
  (a = none ∧ len = 0 ∧ cap = 0 ∧ zs = []) ∨
  ∃ x, a = some x ∧ len ≤ cap ∧ cap ≤ maxLen ∧ zs.length = cap ∧ (∀ i, i < zs.length → w.cell? (x.add i) = some (.int k (zs.getD i 0))) ∧ ∀ n ∈ zs, (Lit.int k n).wf = true

theorem crel_ints {O : Nat → Prop} {w : World} : ∀ (L : List Int) (x : Addr), (L ≠ [] → ¬ O x.block) → (∀ i, i < L.length → w.cell? (x.add i) = some (.int .i64 (L.getD i 0))) → CRel O w (ints L) x
  | [], x, _, _ => by simp only [ints, List.map_nil, CRel]
  | n :: L, x, hO, h => by
    have h0 := h 0 (by simp)
    rw [Addr.add_zero'] at h0
    have hs : x.spot = none := World.cell?_spot h0
    have e : ints (n :: L) = .val (.int .i64 n) :: ints L := rfl
    rw [e]
    simp only [CRel]
    refine ⟨hs, hO (by simp), ⟨_, h0, by simp [VRel]⟩, crel_ints L ⟨x.block, x.off + 1, none⟩ (fun _ => hO (by simp)) (fun i hi => ?_)⟩
    have := h (i + 1) (by simpa using hi)
    have e2 : (⟨x.block, x.off + 1, none⟩ : Addr).add i = x.add (i + 1) := by
      rw [Addr.add_lit, Addr.add_succ']
      simp [Nat.add_assoc, Nat.add_comm 1 i]
    rw [e2, this]
    simp

theorem isRow_rel {w : World} {a : Option Addr} {len cap : Nat} {zs : List Int} (h : IsRow .i64 w a len cap zs) : VRel (fun _ => False) w noj (ri (zs.take len)) (.slice a len cap) := by
  rcases h with ⟨rfl, rfl, rfl, rfl⟩ | ⟨x, rfl, h1, h2, h3, h4, h5⟩
  · simp only [ri, VRel]
    exact ⟨none, 0, rfl, Nat.le_refl _, by simp, .inl (by simp [ints])⟩
  · have hl : (zs.take len).length = len := by simp; omega
    simp only [ri, VRel]
    refine ⟨some x, cap, by rw [hl], by omega, by simp, .inr ⟨x, rfl, crel_ints _ x (fun _ h => h) (fun i hi => ?_)⟩⟩
    have hi' : i < len := by rw [hl] at hi; exact hi
    rw [h4 i (by omega)]
    congr 2
    simp [List.getD, hi']

def i64R (n : Int) : Prop := -9223372036854775808 ≤ n ∧ n ≤ 9223372036854775807
theorem wf_i64 {n : Int} (h : (Lit.int .i64 n).wf = true) : i64R n := by
  simp [Lit.wf, IntKind.min, IntKind.max, IntKind.signed, IntKind.bits] at h
  unfold i64R
  omega

section
variable {Hh : Type} {enc : TypeId × Value → Hh} {P : Program} {w : World} {held : Bool}
open Go.ChangeShapes Go.WideShapes

theorem cell_ints {t e : TypeId} {fuel : Nat} {v : Value} {x : DataW Hh × List MemPlace} (ht : P.underlying t = some (.slice e)) (he : P.underlying e = some (.int .i64)) (hc : P.cellsOf e = 1)
    (h : DataW.trod enc P w 0 (fun _ => true) held fuel t [v] = some x) : ∃ L : List Int, VRel (fun _ => False) w noj (ri L) v ∧ (∀ n ∈ L, i64R n) ∧ L.length ≤ maxLen := by
  rcases open_ints ht he hc h with ⟨hcs, _⟩ | ⟨a, l, c, zs, hcs, _, hl, hm, hz, _, hcell, hwz⟩
  · simp at hcs
    subst hcs
    exact ⟨[], isRow_rel (zs := []) (.inl ⟨rfl, rfl, rfl, rfl⟩), by simp, by simp⟩
  · simp at hcs
    subst hcs
    exact ⟨zs.take l, isRow_rel (.inr ⟨_, rfl, hl, hm, by simpa using hz, hcell, hwz⟩), fun n hn => wf_i64 (hwz n (List.mem_of_mem_take hn)), by simp; omega⟩

/-- Numbers by rows, to read. -/
def rows (M : List (List Int)) : List SV := M.map ri
def rr (M : List (List Int)) : SV := .row M.length false (rows M)

theorem addr_at {x : Addr} (hs : x.spot = none) (i : Nat) : x.add i = ⟨x.block, x.off + i, none⟩ := by
  obtain ⟨b, o, s⟩ := x
  simp at hs; subst hs
  unfold Addr.add
  by_cases h : i = 0 <;> simp [h]

theorem crel_fn {ss : List SV} {x : Addr} (h : ∀ i s, ss[i]? = some s → ∃ v, w.cell? (x.add i) = some v ∧ VRel (fun _ => False) w noj s v) : CRel (fun _ => False) w ss x := by
  cases ss with
  | nil => simp only [CRel]
  | cons s ss =>
    obtain ⟨v, h0, _⟩ := h 0 s (by simp)
    rw [Addr.add_zero'] at h0
    have hs : x.spot = none := World.cell?_spot h0
    obtain ⟨b, o, sp⟩ := x
    simp at hs; subst hs
    exact CRel.mk (fun _ h => h) (fun i s' hi => by
      obtain ⟨v', g1, g2⟩ := h i s' hi
      rw [addr_at rfl] at g1
      exact ⟨v', g1, g2⟩)

theorem cell_rows {t e q : TypeId} {fuel : Nat} {v : Value} {x : DataW Hh × List MemPlace} (ht : P.underlying t = some (.slice e)) (he : P.underlying e = some (.slice q)) (hq : P.underlying q = some (.int .i64)) (ce : P.cellsOf e = 1) (cq : P.cellsOf q = 1)
    (h : DataW.trod enc P w 0 (fun _ => true) held fuel t [v] = some x) : ∃ M : List (List Int), VRel (fun _ => False) w noj (rr M) v ∧ (∀ L ∈ M, (∀ n ∈ L, i64R n) ∧ L.length ≤ maxLen) ∧ M.length ≤ maxLen := by
  rcases Deep.open_slice1 ht ce h with ⟨hcs, _⟩ | ⟨a, len, cap, m, n, V, D, Pl, hcs, hb, hl, hm, hmm, _, hx⟩
  · simp at hcs
    subst hcs
    refine ⟨[], ?_, by simp, by simp⟩
    simp only [rr, VRel]
    exact ⟨none, 0, rfl, Nat.le_refl _, by simp, .inl (by simp [rows])⟩
  · simp at hcs
    subst hcs
    simp only [if_true] at hmm
    subst hmm
    obtain ⟨L, hL⟩ := Deep.choose_lt (α := List Int) (p := fun i L => VRel (fun _ => False) w noj (ri L) (V i) ∧ (∀ n ∈ L, i64R n) ∧ L.length ≤ maxLen) (fun i hi => cell_ints he hq cq (hx i hi).2)
    refine ⟨(List.range len).map L, ?_, ?_, by simp; omega⟩
    · simp only [rr, VRel]
      refine ⟨some a, m, by simp, by simpa using hl, by simp, .inr ⟨a, rfl, crel_fn (fun i s hi => ?_)⟩⟩
      simp only [rows, List.map_map, List.getElem?_map, Option.map_eq_some_iff] at hi
      obtain ⟨k, hk, rfl⟩ := hi
      have hi : i < len := by
        have := (List.getElem?_eq_some_iff.1 hk).1
        simpa using this
      obtain rfl : i = k := by simpa [hi] using hk
      exact ⟨V i, (hx i (by omega)).1, (hL i (by omega)).1⟩
    · intro l hl'
      simp only [List.mem_map, List.mem_range] at hl'
      obtain ⟨i, hi, rfl⟩ := hl'
      exact (hL i (by omega)).2

/-- A constraint: two items; are they together? -/
abbrev Con := Int × Int × Bool
def con3 (c : Con) : List SV := [.val (.int .i64 c.1), .val (.int .i64 c.2.1), .val (.bool c.2.2)]
def cons (C : List Con) : List SV := C.flatMap con3
def rc (C : List Con) : SV := .row C.length false (cons C)
theorem cons_get : ∀ (C : List Con) (i : Nat) (s : SV), (cons C)[i]? = some s → ∃ c, C[i / 3]? = some c ∧ (con3 c)[i % 3]? = some s
  | [], i, s, h => by simp [cons] at h
  | c :: C, i, s, h => by
    have e : cons (c :: C) = con3 c ++ cons C := rfl
    rw [e, List.getElem?_append] at h
    have e3 : (con3 c).length = 3 := rfl
    rw [e3] at h
    split at h
    · rename_i hlt
      refine ⟨c, ?_, ?_⟩
      · rw [Nat.div_eq_of_lt hlt]; rfl
      · rw [Nat.mod_eq_of_lt hlt]; exact h
    · rename_i hge
      obtain ⟨d, h1, h2⟩ := cons_get C (i - 3) s h
      refine ⟨d, ?_, ?_⟩
      · have : i / 3 = (i - 3) / 3 + 1 := by omega
        rw [this]; simpa using h1
      · have : i % 3 = (i - 3) % 3 := by omega
        rw [this]; exact h2

theorem cell_cons {t e : TypeId} {f0 f1 f2 : Field} {fuel : Nat} {v : Value} {x : DataW Hh × List MemPlace} (ht : P.underlying t = some (.slice e)) (he : P.underlying e = some (.struct #[f0, f1, f2])) (ce : P.cellsOf e = 3)
    (o0 : f0.offset = 0) (o1 : f1.offset = 1) (o2 : f2.offset = 2) (u0 : P.underlying f0.type = some (.int .i64)) (u1 : P.underlying f1.type = some (.int .i64)) (u2 : P.underlying f2.type = some .bool) (c0 : P.cellsOf f0.type = 1) (c1 : P.cellsOf f1.type = 1) (c2 : P.cellsOf f2.type = 1)
    (h : DataW.trod enc P w 0 (fun _ => true) held fuel t [v] = some x) : ∃ C : List Con, VRel (fun _ => False) w noj (rc C) v ∧ (∀ c ∈ C, i64R c.1 ∧ i64R c.2.1) ∧ C.length ≤ maxLen := by
  rcases Deep.open_slice ht h with ⟨hcs, _⟩ | ⟨a, len, cap, m, n, D, Pl, hcs, hb, hl, hm, hmm, _, hx⟩
  · simp at hcs
    subst hcs
    refine ⟨[], ?_, by simp, by simp⟩
    simp only [rc, VRel]
    exact ⟨none, 0, rfl, Nat.le_refl _, by simp, .inl (by simp [cons])⟩
  · simp at hcs
    subst hcs
    simp only [if_true] at hmm
    subst hmm
    rw [ce] at hx
    obtain ⟨C, hC⟩ := Deep.choose_lt (α := Con) (p := fun i c => (∀ k s, (con3 c)[k]? = some s → ∃ u, w.cell? (a.add (i * 3 + k)) = some u ∧ VRel (fun _ => False) w noj s u) ∧ i64R c.1 ∧ i64R c.2.1) (fun i hi => by
      obtain ⟨cs, h1, h2⟩ := hx i hi
      obtain ⟨_, hlen, hcell⟩ := World.cells?_some h1
      obtain ⟨xs, k, hk, hxy, _, hxl, hf⟩ := DataW.trod_struct he h2
      match xs, hxl, cs, hlen with
      | [y0, y1, y2], _, [v0, v1, v2], _ =>
        have g0 := hf 0 f0 rfl
        have g1 := hf 1 f1 rfl
        have g2 := hf 2 f2 rfl
        simp [o0, o1, o2, c0, c1, c2] at g0 g1 g2
        obtain ⟨n0, q0, _, w0⟩ := DataW.trod_int u0 g0
        obtain ⟨n1, q1, _, w1⟩ := DataW.trod_int u1 g1
        obtain ⟨b2, q2, _⟩ := DataW.trod_bool u2 g2
        simp at q0 q1 q2
        subst q0 q1 q2
        have e0 := hcell 0 (by omega)
        have e1 := hcell 1 (by omega)
        have e2 := hcell 2 (by omega)
        rw [Deep.add_add] at e0 e1 e2
        refine ⟨(n0, n1, b2), ?_, wf_i64 w0, wf_i64 w1⟩
        intro k s hs
        match k, hs with
        | 0, hs => simp [con3] at hs; subst hs; exact ⟨_, by simpa using e0, by simp only [VRel]⟩
        | 1, hs => simp [con3] at hs; subst hs; exact ⟨_, by simpa using e1, by simp only [VRel]⟩
        | 2, hs => simp [con3] at hs; subst hs; exact ⟨_, by simpa using e2, by simp only [VRel]⟩
        | k + 3, hs => simp [con3] at hs)
    refine ⟨(List.range len).map C, ?_, ?_, by simp; omega⟩
    · simp only [rc, VRel]
      refine ⟨some a, m, by simp, by simpa using hl, by simp, .inr ⟨a, rfl, crel_fn (fun i s hi => ?_)⟩⟩
      obtain ⟨c, h1, h2⟩ := cons_get _ _ _ hi
      have hi3 : i / 3 < len := by
        have := (List.getElem?_eq_some_iff.1 h1).1
        simpa using this
      obtain rfl : C (i / 3) = c := by simpa [hi3] using h1
      obtain ⟨u, g1, g2⟩ := (hC (i / 3) (by omega)).1 _ _ h2
      exact ⟨u, by rw [← g1]; congr 2; omega, g2⟩
    · intro c hc
      simp only [List.mem_map, List.mem_range] at hc
      obtain ⟨i, hi, rfl⟩ := hc
      exact (hC i (by omega)).2

/-- A clustering: labels, cost, exact, gap. -/
structure Clu where
  labels : List Int
  cost : Int
  exact : Bool
  gap : Int
def sclu (c : Clu) : SV := .agg [ri c.labels, .val (.int .i64 c.cost), .val (.bool c.exact), .val (.int .i64 c.gap)]

theorem cell_clu {t e : TypeId} {f0 f1 f2 f3 : Field} {fuel : Nat} {cs : List Value} {x : DataW Hh × List MemPlace} (ht : P.underlying t = some (.struct #[f0, f1, f2, f3])) (hlen : cs.length = 4)
    (o0 : f0.offset = 0) (o1 : f1.offset = 1) (o2 : f2.offset = 2) (o3 : f3.offset = 3) (u0 : P.underlying f0.type = some (.slice e)) (ue : P.underlying e = some (.int .i64)) (ce : P.cellsOf e = 1) (u1 : P.underlying f1.type = some (.int .i64)) (u2 : P.underlying f2.type = some .bool) (u3 : P.underlying f3.type = some (.int .i64))
    (c0 : P.cellsOf f0.type = 1) (c1 : P.cellsOf f1.type = 1) (c2 : P.cellsOf f2.type = 1) (c3 : P.cellsOf f3.type = 1)
    (h : DataW.trod enc P w 0 (fun _ => true) held fuel t cs = some x) : ∃ c : Clu, LRel (fun _ => False) w noj [ri c.labels, .val (.int .i64 c.cost), .val (.bool c.exact), .val (.int .i64 c.gap)] cs ∧ (∀ n ∈ c.labels, i64R n) ∧ c.labels.length ≤ maxLen ∧ i64R c.cost ∧ i64R c.gap := by
  obtain ⟨xs, k, hk, hxy, _, hxl, hf⟩ := DataW.trod_struct ht h
  match xs, hxl, cs, hlen with
  | [y0, y1, y2, y3], _, [v0, v1, v2, v3], _ =>
    have g0 := hf 0 f0 rfl
    have g1 := hf 1 f1 rfl
    have g2 := hf 2 f2 rfl
    have g3 := hf 3 f3 rfl
    simp [o0, o1, o2, o3, c0, c1, c2, c3] at g0 g1 g2 g3
    obtain ⟨L, hL, hr, hlL⟩ := cell_ints u0 ue ce g0
    obtain ⟨n1, q1, _, w1⟩ := DataW.trod_int u1 g1
    obtain ⟨b2, q2, _⟩ := DataW.trod_bool u2 g2
    obtain ⟨n3, q3, _, w3⟩ := DataW.trod_int u3 g3
    simp at q1 q2 q3
    subst q1 q2 q3
    refine ⟨⟨L, n1, b2, n3⟩, ?_, hr, hlL, wf_i64 w1, wf_i64 w3⟩
    simp only [LRel, VRel]
    exact ⟨_, _, rfl, hL, _, _, rfl, rfl, _, _, rfl, rfl, _, _, rfl, rfl, rfl⟩
end

theorem PCall.law {P : Program} {f : FuncId} {args : List SV} {vs : List Value} {w : World} (h : PCall P f args (.val (.bool true))) (hl : LRel (fun _ => False) w noj args vs) :
    Calls P f vs.toArray w fun e w' => e = .returned (.bool true) ∧ Below w.heap.size w w' := by
  refine (h.2 w vs hl).mono ?_
  rintro e w' ⟨v, rfl, h2, h3⟩
  simp only [VRel] at h3
  subst h3
  exact ⟨rfl, h2⟩
end Go.Sh
