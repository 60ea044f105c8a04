/-
  Texts put together: ShA, ShB, ShC, ShD, ShE, ShF, ShG. What each proves stands at its own head, with its conditions.
-/
import Derived.Below
import Derived.Calls
import Derived.Control
import Derived.Laws.Sem
import Derived.Laws.World
import Derived.Laws.Cells
import Derived.Orders
import Derived.Deep.AppendSrc
import Derived.Laws.MakeOwn
import Derived.Laws.OwnMore
import Derived.Laws.Slices
import Derived.Laws.IdiomCopy
import Derived.WalkKit
import Derived.Deep.Upon
import Derived.Laws.StructEq
import Derived.Laws.BytesArg
import Derived.Laws.IdiomStrings

set_option linter.unusedSimpArgs false
set_option linter.unusedVariables false
/-
  A shadow of a run: values without addresses, a small heap of what the call itself made, and how both stand to the machine's world.
  No statement of a claim is proved here: only what the claim's text leans on.
-/
namespace Go.Sh
open Go Go.RowKit

inductive SV where
  | undef
  | val (v : Value)
  | row (n : Nat) (ex : Bool) (cs : List SV)
  | rptr (cs : List SV) (off : Nat)
  | own (b off n cap sz : Nat) (ex : Bool)
  | optr (b off : Nat)
  | agg (cs : List SV)
  | tup (vs : List SV)
  | clos (fn : Fn) (first captured : List SV)
  | iface (t : TypeId) (v : SV)

instance : Inhabited SV := ⟨.undef⟩

abbrev JMap := Nat → Option (Nat × Nat)
def noj : JMap := fun _ => none

mutual
def VRel (O : Nat → Prop) (w : World) : JMap → SV → Value → Prop
  | _, .undef, _ => True
  | _, .val u, v => v = u
  | _, .row n ex cs, v => ∃ a cap, v = .slice a n cap ∧ n ≤ cap ∧ (ex = true → cap = n) ∧ ((a = none ∧ n = 0 ∧ cap = 0 ∧ cs = []) ∨ ∃ b, a = some b ∧ CRel O w cs b)
  | _, .rptr cs off, v => ∃ a, v = .pointer (some (a.add off)) ∧ CRel O w cs a
  | j, .own b off n cap sz ex, v => ∃ rb base a cap' c e fr, j b = some (rb, base) ∧ v = .slice (some a) n cap' ∧ n ≤ cap ∧ cap ≤ cap' ∧ (ex = true → cap' = cap) ∧
      (cap' = 0 ∨ a = ⟨rb, base + off, none⟩) ∧ w.heap[rb]? = some (.cells c e fr) ∧ base + off + cap' * sz ≤ c.size
  | j, .optr b off, v => ∃ rb base, j b = some (rb, base) ∧ v = .pointer (some ⟨rb, base + off, none⟩)
  | j, .agg cs, v => ∃ vs : List Value, v = .agg vs.toArray ∧ LRel O w j cs vs
  | j, .tup cs, v => ∃ vs : List Value, v = .tuple vs.toArray ∧ LRel O w j cs vs
  | j, .clos fn fs cs, v => ∃ us vs : List Value, v = .func fn us.toArray vs.toArray ∧ LRel O w j fs us ∧ LRel O w j cs vs
  | j, .iface t s, v => ∃ u, v = .iface t u ∧ VRel O w j s u
def LRel (O : Nat → Prop) (w : World) : JMap → List SV → List Value → Prop
  | _, [], vs => vs = []
  | j, s :: ss, vs => ∃ v rest, vs = v :: rest ∧ VRel O w j s v ∧ LRel O w j ss rest
def CRel (O : Nat → Prop) (w : World) : List SV → Addr → Prop
  | [], _ => True
  | s :: ss, a => a.spot = none ∧ ¬ O a.block ∧ (∃ v, w.cell? a = some v ∧ VRel O w noj s v) ∧ CRel O w ss ⟨a.block, a.off + 1, none⟩
end
structure Tr (O : Nat → Prop) (w : World) (O' : Nat → Prop) (w' : World) : Prop where
  cell : ∀ (a : Addr) (v : Value), w.cell? a = some v → ¬ O a.block → w'.cell? a = some v ∧ ¬ O' a.block
  blk : ∀ (k : Nat) (c : Array Value) (e : TypeId) (fr : Nat × Nat), w.heap[k]? = some (.cells c e fr) → ∃ (c' : Array Value) (e' : TypeId) (fr' : Nat × Nat), w'.heap[k]? = some (.cells c' e' fr') ∧ c'.size = c.size

mutual
theorem VRel.tr {O O' : Nat → Prop} {w w' : World} (T : Tr O w O' w') : ∀ {j j' : JMap} (_ : ∀ b p, j b = some p → j' b = some p) (s : SV) (v : Value), VRel O w j s v → VRel O' w' j' s v
  | _, _, _, .undef, _, _ => by simp only [VRel]
  | _, _, _, .val u, v, h => by simpa only [VRel] using h
  | _, _, _, .row n ex cs, v, h => by
    simp only [VRel] at h ⊢
    obtain ⟨a, cap, h1, h2, h3, h4⟩ := h
    refine ⟨a, cap, h1, h2, h3, ?_⟩
    rcases h4 with h4 | ⟨b, h4, h5⟩
    · exact .inl h4
    · exact .inr ⟨b, h4, CRel.tr T cs b h5⟩
  | _, _, _, .rptr cs off, v, h => by
    simp only [VRel] at h ⊢
    obtain ⟨a, h1, h4⟩ := h
    exact ⟨a, h1, CRel.tr T cs a h4⟩
  | _, _, hj, .own b off n cap sz ex, v, h => by
    simp only [VRel] at h ⊢
    obtain ⟨rb, base, a, cap', c, e, fr, h1, h2, h3, h4, h5, h6, h7, h8⟩ := h
    obtain ⟨c', e', fr', g1, g2⟩ := T.blk rb c e fr h7
    exact ⟨rb, base, a, cap', c', e', fr', hj _ _ h1, h2, h3, h4, h5, h6, g1, by omega⟩
  | _, _, hj, .optr b off, v, h => by
    simp only [VRel] at h ⊢
    obtain ⟨rb, base, h1, h2⟩ := h
    exact ⟨rb, base, hj _ _ h1, h2⟩
  | _, _, hj, .agg cs, v, h => by
    simp only [VRel] at h ⊢
    obtain ⟨vs, h1, h2⟩ := h
    exact ⟨vs, h1, LRel.tr T hj cs vs h2⟩
  | _, _, hj, .tup cs, v, h => by
    simp only [VRel] at h ⊢
    obtain ⟨vs, h1, h2⟩ := h
    exact ⟨vs, h1, LRel.tr T hj cs vs h2⟩
  | _, _, hj, .clos fn fs cs, v, h => by
    simp only [VRel] at h ⊢
    obtain ⟨us, vs, h1, h2, h3⟩ := h
    exact ⟨us, vs, h1, LRel.tr T hj fs us h2, LRel.tr T hj cs vs h3⟩
  | _, _, hj, .iface t s, v, h => by
    simp only [VRel] at h ⊢
    obtain ⟨u, h1, h2⟩ := h
    exact ⟨u, h1, VRel.tr T hj s u h2⟩
theorem LRel.tr {O O' : Nat → Prop} {w w' : World} (T : Tr O w O' w') : ∀ {j j' : JMap} (_ : ∀ b p, j b = some p → j' b = some p) (s : List SV) (v : List Value), LRel O w j s v → LRel O' w' j' s v
  | _, _, _, [], vs, h => by simpa only [LRel] using h
  | _, _, hj, s :: ss, vs, h => by
    simp only [LRel] at h ⊢
    obtain ⟨v, rest, h1, h2, h3⟩ := h
    exact ⟨v, rest, h1, VRel.tr T hj s v h2, LRel.tr T hj ss rest h3⟩
theorem CRel.tr {O O' : Nat → Prop} {w w' : World} (T : Tr O w O' w') : ∀ (s : List SV) (a : Addr), CRel O w s a → CRel O' w' s a
  | [], a, _ => by simp only [CRel]
  | s :: ss, a, h => by
    simp only [CRel] at h ⊢
    obtain ⟨h1, h2, ⟨v, h3, h4⟩, h5⟩ := h
    obtain ⟨g1, g2⟩ := T.cell a v h3 h2
    exact ⟨h1, g2, ⟨v, g1, VRel.tr T (fun _ _ h => h) s v h4⟩, CRel.tr T ss _ h5⟩
end
theorem Tr.refl (O : Nat → Prop) (w : World) : Tr O w O w := ⟨fun _ _ h g => ⟨h, g⟩, fun _ c e fr h => ⟨c, e, fr, h, rfl⟩⟩
theorem Tr.weaken {O O' : Nat → Prop} (w : World) (h : ∀ k, O' k → O k) : Tr O w O' w := ⟨fun _ _ g i => ⟨g, fun x => i (h _ x)⟩, fun _ c e fr h => ⟨c, e, fr, h, rfl⟩⟩

theorem VRel.of_noj {O : Nat → Prop} {w : World} {j : JMap} {s : SV} {v : Value} (h : VRel O w noj s v) : VRel O w j s v :=
  VRel.tr (Tr.refl O w) (by intro b p h; simp [noj] at h) s v h

structure Blk where
  cells : List SV
  ex : Bool

structure Heap where
  map : Nat → Option Blk
  nb : Nat

def Heap.empty : Heap := ⟨fun _ => none, 0⟩
def Heap.set (H : Heap) (b : Nat) (k : Option Blk) : Heap := ⟨fun x => if x = b then k else H.map x, H.nb⟩
def Heap.push (H : Heap) (k : Blk) : Heap := ⟨fun x => if x = H.nb then some k else H.map x, H.nb + 1⟩

def OwnR (j : JMap) (H : Heap) (k : Nat) : Prop := ∃ b blk base, H.map b = some blk ∧ j b = some (k, base)

def BlkAt (O : Nat → Prop) (j : JMap) (w : World) (blk : Blk) (rb base : Nat) : Prop :=
  ∃ c e lo hi, w.heap[rb]? = some (.cells c e (lo, hi)) ∧ (hi ≤ lo ∨ c.size ≤ lo) ∧ base + blk.cells.length ≤ c.size ∧ (blk.ex = true → base + blk.cells.length = c.size) ∧
    ∀ i s, blk.cells[i]? = some s → ∃ v, c[base + i]? = some v ∧ VRel O w j s v

def TABS : List (Nat × List (Value → Prop)) := [(6, (List.range 20).map fun i v => v = Value.int .u64 ((10 ^ i : Nat) : Int)), (2, [fun v => v = Value.nilIface ∨ ∃ te pe, v = Value.iface te pe]), (3, [fun v => v = Value.nilIface ∨ ∃ te pe, v = Value.iface te pe]), (1, [fun v => ∃ m, v = Value.int .i64 m]), (0, ([Value.int .i64 0, Value.int .i64 1, Value.int .i64 2, Value.int .i64 3, Value.int .i64 0, Value.int .i64 1, Value.int .i64 2, Value.int .i64 (-1), Value.int .i64 0, Value.int .i64 2, Value.int .i64 2, Value.int .i64 4, Value.int .i64 5, Value.int .i64 5, Value.int .i64 0, Value.int .i64 1, Value.int .i64 2, Value.int .i64 6, Value.int .i64 2, Value.int .i64 3, Value.int .i64 0, Value.int .i64 1, Value.int .i64 (-1), Value.int .i64 2, Value.int .i64 0, Value.int .i64 2] : List Value).map fun (v x : Value) => x = v)]
def TabOk (O : Nat → Prop) (w : World) : Prop := ∀ p ∈ TABS, (∃ (c : Array Value) (e : TypeId) (fr : Nat × Nat), w.heap[p.1]? = some (.cells c e fr) ∧ c.size = p.2.length) ∧ ∀ (i : Nat) (Q : Value → Prop), p.2[i]? = some Q → ∃ v, w.cell? ⟨p.1, i, none⟩ = some v ∧ Q v ∧ ¬ O p.1
theorem TabOk.tr {O O' : Nat → Prop} {w w' : World} (T : Tr O w O' w') (h : TabOk O w) : TabOk O' w' := fun p hp => by
  obtain ⟨⟨c, e, fr, k1, k2⟩, hc⟩ := h p hp
  obtain ⟨c', e', fr', k3, k4⟩ := T.blk _ c e fr k1
  refine ⟨⟨c', e', fr', k3, by rw [k4, k2]⟩, fun i Q hq => ?_⟩
  obtain ⟨v, h1, h2, h3⟩ := hc i Q hq
  obtain ⟨g1, g2⟩ := T.cell ⟨p.1, i, none⟩ v h1 h3
  exact ⟨v, g1, h2, g2⟩
def GLOBS : List (Nat × List Value) := [(0, [Value.int .i64 0, Value.int .i64 1, Value.int .i64 2, Value.int .i64 3, Value.int .i64 0, Value.int .i64 1, Value.int .i64 2, Value.int .i64 (-1), Value.int .i64 0, Value.int .i64 2, Value.int .i64 2, Value.int .i64 4, Value.int .i64 5, Value.int .i64 5, Value.int .i64 0, Value.int .i64 1, Value.int .i64 2, Value.int .i64 6, Value.int .i64 2, Value.int .i64 3, Value.int .i64 0, Value.int .i64 1, Value.int .i64 (-1), Value.int .i64 2, Value.int .i64 0, Value.int .i64 2])]
theorem globs_tab : ∀ p ∈ GLOBS, (p.1, p.2.map fun (v x : Value) => x = v) ∈ TABS := by intro p hp; simp only [GLOBS, List.mem_singleton] at hp; subst hp; simp only [TABS, List.mem_cons, true_or, or_true]
def globV (b : Nat) : Option (List Value) := (GLOBS.find? fun p => p.1 == b).map (·.2)
theorem CRel.vals {O : Nat → Prop} {w : World} {g : Nat} : ∀ {vs : List Value} {o : Nat}, (∀ i v, vs[i]? = some v → w.cell? ⟨g, o + i, none⟩ = some v ∧ ¬ O g) → CRel O w (vs.map SV.val) ⟨g, o, none⟩
  | [], _, _ => by simp only [List.map_nil, CRel]
  | v :: vs, o, h => by
    simp only [List.map_cons, CRel]
    have h0 := h 0 v rfl
    refine ⟨trivial, h0.2, ⟨v, h0.1, by simp only [VRel]⟩, CRel.vals fun i u hu => ?_⟩
    have := h (i + 1) u (by simpa using hu)
    rw [show o + 1 + i = o + (i + 1) by omega]; exact this
theorem globV_rel {O : Nat → Prop} {w : World} (h : TabOk O w) {g : Nat} {vs : List Value} (hg : globV g = some vs) : CRel O w (vs.map SV.val) ⟨g, 0, none⟩ := by
  unfold globV at hg
  cases hf : GLOBS.find? (fun p => p.1 == g) with
  | none => rw [hf] at hg; cases hg
  | some p =>
    rw [hf] at hg
    simp only [Option.map_some, Option.some.injEq] at hg
    subst hg
    have h1 := List.find?_some hf
    have h2 := List.mem_of_find?_eq_some hf
    simp only [beq_iff_eq] at h1
    subst h1
    obtain ⟨_, hc⟩ := h _ (globs_tab p h2)
    refine CRel.vals fun i v hv => ?_
    obtain ⟨u, g1, g2, g3⟩ := hc i (fun x => x = v) (by simp [hv])
    subst g2
    exact ⟨by simpa using g1, g3⟩
structure Rel (j : JMap) (H : Heap) (w : World) : Prop where
  tab : TabOk (OwnR j H) w
  dom : ∀ b p, j b = some p → b < H.nb
  live : ∀ b blk, H.map b = some blk → ∃ rb base, j b = some (rb, base) ∧ BlkAt (OwnR j H) j w blk rb base
  inj : ∀ b b' blk blk' rb base base', H.map b = some blk → H.map b' = some blk' → j b = some (rb, base) → j b' = some (rb, base') → b = b'

structure Nx (j : JMap) (H : Heap) (w : World) (j' : JMap) (H' : Heap) (w' : World) : Prop where
  os : w'.os = w.os
  tape : w'.tape = w.tape
  output : w'.output = w.output
  size : w.heap.size ≤ w'.heap.size
  keep : ∀ k, k < w.heap.size → ¬ OwnR j H k → w'.heap[k]? = w.heap[k]?
  sizes : ∀ (k : Nat) (c : Array Value) (e : TypeId) (fr : Nat × Nat), w.heap[k]? = some (.cells c e fr) → ∃ (c' : Array Value) (e' : TypeId) (fr' : Nat × Nat), w'.heap[k]? = some (.cells c' e' fr') ∧ c'.size = c.size
  jle : ∀ b, b < H.nb → j' b = j b
  nble : H.nb ≤ H'.nb
  own : ∀ k, OwnR j' H' k → OwnR j H k ∨ w.heap.size ≤ k

theorem Nx.refl (j : JMap) (H : Heap) (w : World) : Nx j H w j H w :=
  ⟨rfl, rfl, rfl, Nat.le_refl _, fun _ _ _ => rfl, fun _ c e fr h => ⟨c, e, fr, h, rfl⟩, fun _ _ => rfl, Nat.le_refl _, fun _ h => .inl h⟩

theorem Nx.trans {j j' j'' : JMap} {H H' H'' : Heap} {w w' w'' : World} (h : Nx j H w j' H' w') (g : Nx j' H' w' j'' H'' w'') : Nx j H w j'' H'' w'' where
  os := g.os.trans h.os
  tape := g.tape.trans h.tape
  output := g.output.trans h.output
  size := Nat.le_trans h.size g.size
  keep k hk ho := by
    rw [g.keep k (Nat.lt_of_lt_of_le hk h.size) (fun o => (h.own k o).elim ho (fun hs => by omega)), h.keep k hk ho]
  sizes k c e fr hc := by
    obtain ⟨c1, e1, f1, h1, h2⟩ := h.sizes k c e fr hc
    obtain ⟨c2, e2, f2, g1, g2⟩ := g.sizes k c1 e1 f1 h1
    exact ⟨c2, e2, f2, g1, g2.trans h2⟩
  jle b hb := (g.jle b (Nat.lt_of_lt_of_le hb h.nble)).trans (h.jle b hb)
  nble := Nat.le_trans h.nble g.nble
  own k o := by
    rcases g.own k o with o1 | o1
    · exact h.own k o1
    · exact .inr (Nat.le_trans h.size o1)

theorem cell_lt {w : World} {a : Addr} {v : Value} (h : w.cell? a = some v) : a.block < w.heap.size := World.block_lt_of_cell? w a h
theorem cell_of_heap {w w' : World} {a : Addr} (h : w'.heap[a.block]? = w.heap[a.block]?) : w'.cell? a = w.cell? a := by simp only [World.cell?, h]

theorem Nx.tr {j j' : JMap} {H H' : Heap} {w w' : World} (h : Nx j H w j' H' w') : Tr (OwnR j H) w (OwnR j' H') w' where
  cell a v hc ho := by
    have hlt := cell_lt hc
    refine ⟨by rw [cell_of_heap (h.keep _ hlt ho), hc], fun o => (h.own _ o).elim ho (fun hs => by omega)⟩
  blk := h.sizes

theorem Nx.jmono {j j' : JMap} {H H' : Heap} {w w' : World} (h : Nx j H w j' H' w') (r : Rel j H w) : ∀ b p, j b = some p → j' b = some p :=
  fun b p hp => (h.jle b (r.dom b p hp)).trans hp

theorem VRel.nx {j j' : JMap} {H H' : Heap} {w w' : World} (r : Rel j H w) (h : Nx j H w j' H' w') {s : SV} {v : Value} (hv : VRel (OwnR j H) w j s v) : VRel (OwnR j' H') w' j' s v :=
  VRel.tr h.tr (h.jmono r) s v hv
theorem LRel.nx {j j' : JMap} {H H' : Heap} {w w' : World} (r : Rel j H w) (h : Nx j H w j' H' w') {s : List SV} {v : List Value} (hv : LRel (OwnR j H) w j s v) : LRel (OwnR j' H') w' j' s v :=
  LRel.tr h.tr (h.jmono r) s v hv

theorem LRel.length {O : Nat → Prop} {w : World} {j : JMap} : ∀ {ss : List SV} {vs : List Value}, LRel O w j ss vs → vs.length = ss.length
  | [], vs, h => by simp only [LRel] at h; simp [h]
  | s :: ss, vs, h => by
    simp only [LRel] at h
    obtain ⟨v, rest, rfl, _, h2⟩ := h
    simp [LRel.length h2]
theorem LRel.get {O : Nat → Prop} {w : World} {j : JMap} : ∀ {ss : List SV} {vs : List Value} {i : Nat} {s : SV}, LRel O w j ss vs → ss[i]? = some s → ∃ v, vs[i]? = some v ∧ VRel O w j s v
  | [], vs, i, s, h, hi => by simp at hi
  | s :: ss, vs, 0, s', h, hi => by
    simp only [LRel] at h
    obtain ⟨v, rest, rfl, h1, h2⟩ := h
    simp at hi; subst hi
    exact ⟨v, by simp, h1⟩
  | s :: ss, vs, i + 1, s', h, hi => by
    simp only [LRel] at h
    obtain ⟨v, rest, rfl, h1, h2⟩ := h
    obtain ⟨u, hu, hr⟩ := LRel.get (i := i) h2 (by simpa using hi)
    exact ⟨u, by simpa using hu, hr⟩
theorem LRel.mk {O : Nat → Prop} {w : World} {j : JMap} : ∀ {ss : List SV} {vs : List Value}, vs.length = ss.length → (∀ (i : Nat) (s : SV) (v : Value), ss[i]? = some s → vs[i]? = some v → VRel O w j s v) → LRel O w j ss vs
  | [], vs, hl, _ => by simp only [LRel]; simpa using hl
  | s :: ss, [], hl, _ => by simp at hl
  | s :: ss, v :: vs, hl, h => by
    simp only [LRel]
    exact ⟨v, vs, rfl, h 0 s v (by simp) (by simp), LRel.mk (by simpa using hl) (fun i s v hi hv => h (i + 1) s v (by simpa using hi) (by simpa using hv))⟩
theorem LRel.append {O : Nat → Prop} {w : World} {j : JMap} : ∀ {ss ts : List SV} {vs us : List Value}, LRel O w j ss vs → LRel O w j ts us → LRel O w j (ss ++ ts) (vs ++ us)
  | [], ts, vs, us, h, g => by simp only [LRel] at h; subst h; simpa using g
  | s :: ss, ts, vs, us, h, g => by
    simp only [LRel] at h
    obtain ⟨v, rest, rfl, h1, h2⟩ := h
    simp only [List.cons_append, LRel]
    exact ⟨v, rest ++ us, rfl, h1, LRel.append h2 g⟩
theorem LRel.map_val {O : Nat → Prop} {w : World} {j : JMap} : ∀ (vs : List Value), LRel O w j (vs.map SV.val) vs
  | [] => by simp only [List.map_nil, LRel]
  | v :: vs => by simp only [List.map_cons, LRel]; exact ⟨v, vs, rfl, by simp only [VRel], LRel.map_val vs⟩

theorem CRel.get {O : Nat → Prop} {w : World} : ∀ {ss : List SV} {a : Addr} {i : Nat} {s : SV}, CRel O w ss a → ss[i]? = some s →
    ∃ v, a.spot = none ∧ ¬ O a.block ∧ w.cell? ⟨a.block, a.off + i, none⟩ = some v ∧ VRel O w noj s v
  | [], a, i, s, h, hi => by simp at hi
  | s :: ss, a, 0, s', h, hi => by
    simp only [CRel] at h
    obtain ⟨h1, h2, ⟨v, h3, h4⟩, h5⟩ := h
    simp at hi; subst hi
    obtain ⟨ab, ao, sp⟩ := a
    simp at h1; subst h1
    exact ⟨v, rfl, h2, h3, h4⟩
  | s :: ss, a, i + 1, s', h, hi => by
    simp only [CRel] at h
    obtain ⟨h1, h2, _, h5⟩ := h
    obtain ⟨v, _, _, g3, g4⟩ := CRel.get (i := i) h5 (by simpa using hi)
    exact ⟨v, h1, h2, by simpa [Nat.add_assoc, Nat.add_comm 1 i] using g3, g4⟩
theorem CRel.mk {O : Nat → Prop} {w : World} : ∀ {ss : List SV} {b o : Nat}, (ss ≠ [] → ¬ O b) → (∀ i s, ss[i]? = some s → ∃ v, w.cell? ⟨b, o + i, none⟩ = some v ∧ VRel O w noj s v) → CRel O w ss ⟨b, o, none⟩
  | [], _, _, _, _ => by simp only [CRel]
  | s :: ss, b, o, hO, h => by
    simp only [CRel]
    refine ⟨trivial, hO (by simp), by simpa using h 0 s (by simp), CRel.mk (fun _ => hO (by simp)) (fun i s hi => ?_)⟩
    have := h (i + 1) s (by simpa using hi)
    simpa [Nat.add_assoc, Nat.add_comm 1 i] using this
theorem CRel.drop {O : Nat → Prop} {w : World} : ∀ {ss : List SV} {a : Addr} (i : Nat), CRel O w ss a → CRel O w (ss.drop i) (if i = 0 then a else ⟨a.block, a.off + i, none⟩)
  | ss, a, 0, h => by simpa using h
  | [], a, i + 1, h => by simp only [List.drop_nil, CRel]
  | s :: ss, a, i + 1, h => by
    simp only [CRel] at h
    have := CRel.drop i h.2.2.2
    simp only [List.drop_succ_cons]
    by_cases h0 : i = 0
    · subst h0; simpa using this
    · simpa [h0, Nat.add_assoc, Nat.add_comm 1 i] using this
theorem CRel.take {O : Nat → Prop} {w : World} : ∀ {ss : List SV} {a : Addr} (i : Nat), CRel O w ss a → CRel O w (ss.take i) a
  | ss, a, 0, h => by simp only [List.take_zero, CRel]
  | [], a, i + 1, h => by simp only [List.take_nil, CRel]
  | s :: ss, a, i + 1, h => by
    simp only [CRel] at h
    simp only [List.take_succ_cons, CRel]
    exact ⟨h.1, h.2.1, h.2.2.1, CRel.take i h.2.2.2⟩
end Go.Sh

/-
  What becomes of the shadow's heap when the machine's world changes: a draw, a new block, a store, a block let go.
-/
namespace Go.Sh
open Go Go.RowKit

theorem OwnR.congr {j : JMap} {H H' : Heap} (h : ∀ b, (H'.map b).isSome = (H.map b).isSome) (k : Nat) : OwnR j H' k ↔ OwnR j H k := by
  constructor
  · rintro ⟨b, blk, base, h1, h2⟩
    have := h b
    rw [h1] at this
    obtain ⟨blk', h3⟩ := Option.isSome_iff_exists.1 this.symm
    exact ⟨b, blk', base, h3, h2⟩
  · rintro ⟨b, blk, base, h1, h2⟩
    have := h b
    rw [h1] at this
    obtain ⟨blk', h3⟩ := Option.isSome_iff_exists.1 this
    exact ⟨b, blk', base, h3, h2⟩

theorem Nx.drew (j : JMap) (H : Heap) (w : World) : Nx j H w j H w.drew :=
  ⟨rfl, rfl, rfl, Nat.le_refl _, fun _ _ _ => rfl, fun _ c e fr h => ⟨c, e, fr, h, rfl⟩, fun _ _ => rfl, Nat.le_refl _, fun _ h => .inl h⟩

theorem BlkAt.tr {O O' : Nat → Prop} {w w' : World} {j j' : JMap} (T : Tr O w O' w') (hj : ∀ b p, j b = some p → j' b = some p) {blk : Blk} {rb base : Nat}
    (hsame : w'.heap[rb]? = w.heap[rb]?) (h : BlkAt O j w blk rb base) : BlkAt O' j' w' blk rb base := by
  obtain ⟨c, e, lo, hi, h1, h2, h3, h4, h5⟩ := h
  refine ⟨c, e, lo, hi, by rw [hsame, h1], h2, h3, h4, fun i s hi => ?_⟩
  obtain ⟨v, g1, g2⟩ := h5 i s hi
  exact ⟨v, g1, VRel.tr T hj s v g2⟩

theorem Rel.drew {j : JMap} {H : Heap} {w : World} (r : Rel j H w) : Rel j H w.drew where
  tab := r.tab.tr (Nx.drew j H w).tr
  dom := r.dom
  live b blk hb := by
    obtain ⟨rb, base, h1, h2⟩ := r.live b blk hb
    exact ⟨rb, base, h1, h2.tr (Nx.drew j H w).tr (fun _ _ h => h) rfl⟩
  inj := r.inj

theorem Rel.own_lt {j : JMap} {H : Heap} {w : World} (r : Rel j H w) {k : Nat} (h : OwnR j H k) : k < w.heap.size := by
  obtain ⟨b, blk, base, h1, h2⟩ := h
  obtain ⟨rb, base', h3, c, e, lo, hi, h4, _⟩ := r.live b blk h1
  rw [h2] at h3
  obtain ⟨rfl, rfl⟩ := (by simpa using h3 : k = rb ∧ base = base')
  rcases Nat.lt_or_ge k w.heap.size with h | h
  · exact h
  · rw [Array.getElem?_eq_none h] at h4; simp at h4

def JMap.put (j : JMap) (b : Nat) (p : Nat × Nat) : JMap := fun x => if x = b then some p else j x

theorem heap_alloc_old (w : World) (o : Obj) (k : Nat) (h : k < w.heap.size) : (w.alloc o).heap[k]? = w.heap[k]? := Below.heap_alloc w o k h
theorem heap_alloc_new (w : World) (o : Obj) : (w.alloc o).heap[w.heap.size]? = some o := by
  show (w.heap.push o)[w.heap.size]? = some o
  simp

theorem alloc_relF {lo hi : Nat} {j : JMap} {H : Heap} {w : World} (r : Rel j H w) (c : Array Value) (e : TypeId) (hlo : hi ≤ lo ∨ c.size ≤ lo) (blk : Blk) (hlen : blk.cells.length ≤ c.size) (hex : blk.ex = true → blk.cells.length = c.size)
    (hc : ∀ (i : Nat) (s : SV), blk.cells[i]? = some s → ∃ v : Value, c[i]? = some v ∧ VRel (OwnR j H) w j s v) :
    Rel (j.put H.nb (w.heap.size, 0)) (H.push blk) (w.alloc (.cells c e (lo, hi))) ∧ Nx j H w (j.put H.nb (w.heap.size, 0)) (H.push blk) (w.alloc (.cells c e (lo, hi))) := by
  have hjn : j H.nb = none := by
    cases hj : j H.nb with
    | none => rfl
    | some p => exact absurd (r.dom _ _ hj) (Nat.lt_irrefl _)
  have hmn : H.map H.nb = none := by
    cases hm : H.map H.nb with
    | none => rfl
    | some b =>
      obtain ⟨rb, base, h1, _⟩ := r.live _ _ hm
      rw [hjn] at h1; simp at h1
  have hjle : ∀ b, b < H.nb → (j.put H.nb (w.heap.size, 0)) b = j b := fun b hb => by
    unfold JMap.put; rw [if_neg (by omega)]
  have hown : ∀ k, OwnR (j.put H.nb (w.heap.size, 0)) (H.push blk) k → OwnR j H k ∨ w.heap.size ≤ k := by
    rintro k ⟨b, bk, base, h1, h2⟩
    unfold Heap.push at h1
    unfold JMap.put at h2
    by_cases hb : b = H.nb
    · subst hb; simp at h2; exact .inr (by omega)
    · simp [hb] at h1 h2; exact .inl ⟨b, bk, base, h1, h2⟩
  have nx : Nx j H w (j.put H.nb (w.heap.size, 0)) (H.push blk) (w.alloc (.cells c e (lo, hi))) := by
    refine ⟨rfl, rfl, rfl, by simp, fun k hk _ => heap_alloc_old w _ k hk, fun k c' e' fr hk => ⟨c', e', fr, ?_, rfl⟩, hjle, by simp [Heap.push], hown⟩
    rw [heap_alloc_old w _ k ?_, hk]
    rcases Nat.lt_or_ge k w.heap.size with h | h
    · exact h
    · rw [Array.getElem?_eq_none h] at hk; simp at hk
  have hj' := nx.jmono r
  refine ⟨⟨r.tab.tr nx.tr, ?_, ?_, ?_⟩, nx⟩
  · intro b p hb
    unfold JMap.put at hb
    by_cases h : b = H.nb
    · subst h; simp [Heap.push]
    · simp [h] at hb; have := r.dom b p hb; simp [Heap.push]; omega
  · intro b bk hb
    unfold Heap.push at hb
    by_cases h : b = H.nb
    · subst h
      simp at hb; subst hb
      refine ⟨w.heap.size, 0, by simp [JMap.put], c, e, lo, hi, heap_alloc_new w _, hlo, by omega, by simpa using hex, fun i s hi => ?_⟩
      obtain ⟨v, h1, h2⟩ := hc i s hi
      exact ⟨v, by simpa using h1, VRel.tr nx.tr hj' s v h2⟩
    · simp [h] at hb
      obtain ⟨rb, base, h1, h2⟩ := r.live b bk hb
      exact ⟨rb, base, hj' _ _ h1, h2.tr nx.tr hj' (heap_alloc_old w _ _ (r.own_lt ⟨b, bk, base, hb, h1⟩))⟩
  · intro b b' bk bk' rb base base' h1 h2 h3 h4
    unfold Heap.push at h1 h2
    unfold JMap.put at h3 h4
    by_cases hb : b = H.nb <;> by_cases hb' : b' = H.nb
    · omega
    · subst hb; simp [hb'] at h2 h3 h4
      have := r.own_lt ⟨b', bk', base', h2, h4⟩
      omega
    · subst hb'; simp [hb] at h1 h3 h4
      have := r.own_lt ⟨b, bk, base, h1, h3⟩
      omega
    · simp [hb, hb'] at h1 h2 h3 h4
      exact r.inj b b' bk bk' rb base base' h1 h2 h3 h4

theorem alloc_rel {j : JMap} {H : Heap} {w : World} (r : Rel j H w) (c : Array Value) (e : TypeId) (blk : Blk) (hlen : blk.cells.length ≤ c.size) (hex : blk.ex = true → blk.cells.length = c.size)
    (hc : ∀ (i : Nat) (s : SV), blk.cells[i]? = some s → ∃ v : Value, c[i]? = some v ∧ VRel (OwnR j H) w j s v) :
    Rel (j.put H.nb (w.heap.size, 0)) (H.push blk) (w.alloc (.cells c e)) ∧ Nx j H w (j.put H.nb (w.heap.size, 0)) (H.push blk) (w.alloc (.cells c e)) :=
  alloc_relF r c e (.inl (Nat.le_refl 0)) blk hlen hex hc

theorem kill_rel {j : JMap} {H : Heap} {w : World} (r : Rel j H w) (b : Nat) : Rel j (H.set b none) w ∧ Nx j H w j (H.set b none) w := by
  have hsub : ∀ k, OwnR j (H.set b none) k → OwnR j H k := by
    rintro k ⟨b', bk, base, h1, h2⟩
    unfold Heap.set at h1
    by_cases hb : b' = b
    · simp [hb] at h1
    · simp [hb] at h1; exact ⟨b', bk, base, h1, h2⟩
  have T : Tr (OwnR j H) w (OwnR j (H.set b none)) w := Tr.weaken w hsub
  refine ⟨⟨r.tab.tr T, r.dom, ?_, ?_⟩, ⟨rfl, rfl, rfl, Nat.le_refl _, fun _ _ _ => rfl, fun _ c e fr h => ⟨c, e, fr, h, rfl⟩, fun _ _ => rfl, Nat.le_refl _, fun k h => .inl (hsub k h)⟩⟩
  · intro b' bk hb
    unfold Heap.set at hb
    by_cases h : b' = b
    · simp [h] at hb
    · simp [h] at hb
      obtain ⟨rb, base, h1, h2⟩ := r.live b' bk hb
      exact ⟨rb, base, h1, h2.tr T (fun _ _ h => h) rfl⟩
  · intro b1 b2 bk1 bk2 rb base base' h1 h2 h3 h4
    unfold Heap.set at h1 h2
    by_cases g1 : b1 = b
    · simp [g1] at h1
    · by_cases g2 : b2 = b
      · simp [g2] at h2
      · simp [g1, g2] at h1 h2
        exact r.inj _ _ _ _ _ _ _ h1 h2 h3 h4

theorem setCell_rel {j : JMap} {H : Heap} {w : World} (r : Rel j H w) {b : Nat} {blk : Blk} (hb : H.map b = some blk) {rb base : Nat} (hj : j b = some (rb, base)) (off : Nat) (s : SV) (v : Value)
    (hoff : off < blk.cells.length) (hv : VRel (OwnR j H) w j s v) :
    (∃ u, w.cell? ⟨rb, base + off, none⟩ = some u) ∧ w.frozen? ⟨rb, base + off, none⟩ = false ∧
    Rel j (H.set b (some ⟨blk.cells.set off s, blk.ex⟩)) (w.setCell ⟨rb, base + off, none⟩ v) ∧ Nx j H w j (H.set b (some ⟨blk.cells.set off s, blk.ex⟩)) (w.setCell ⟨rb, base + off, none⟩ v) := by
  obtain ⟨rb', base', h1, c, e, lo, hi, h2, h3, h4, h5, h6⟩ := r.live b blk hb
  rw [hj] at h1
  obtain ⟨rfl, rfl⟩ := (by simpa using h1 : rb = rb' ∧ base = base')
  have hlt : base + off < c.size := by omega
  have hiff : ∀ k, OwnR j (H.set b (some ⟨blk.cells.set off s, blk.ex⟩)) k ↔ OwnR j H k := OwnR.congr (fun b' => by
    unfold Heap.set
    by_cases h : b' = b
    · subst h; simp [hb]
    · simp [h])
  have hown : OwnR j H rb := ⟨b, blk, base, hb, hj⟩
  have hne : ∀ k, k ≠ rb → (w.setCell ⟨rb, base + off, none⟩ v).heap[k]? = w.heap[k]? := fun k hk => Below.heap_setCell w _ v k hk
  have hnew : (w.setCell ⟨rb, base + off, none⟩ v).heap[rb]? = some (.cells (c.setIfInBounds (base + off) v) e (lo, hi)) := by
    simp [World.setCell, Array.getElem?_modify, h2]
  have nx : Nx j H w j (H.set b (some ⟨blk.cells.set off s, blk.ex⟩)) (w.setCell ⟨rb, base + off, none⟩ v) := by
    refine ⟨rfl, rfl, rfl, by simp, fun k _ ho => hne k (fun e => ho (e ▸ hown)), fun k c' e' fr hk => ?_, fun _ _ => rfl, Nat.le_refl _, fun k h => .inl ((hiff k).1 h)⟩
    by_cases h : k = rb
    · subst h
      rw [h2] at hk
      obtain ⟨rfl, rfl, rfl⟩ := (by simpa using hk : c = c' ∧ e = e' ∧ (lo, hi) = fr)
      exact ⟨_, _, _, hnew, by simp⟩
    · exact ⟨c', e', fr, by rw [hne k h, hk], rfl⟩
  refine ⟨⟨c[base + off], by simp [World.cell?, h2, hlt]⟩, ?_, ⟨r.tab.tr nx.tr, r.dom, ?_, ?_⟩, nx⟩
  · simp only [World.frozen?, h2]
    rcases h3 with h3 | h3
    · simp; omega
    · simp; omega
  · intro b' bk hb'
    by_cases h : b' = b
    · subst h
      simp [Heap.set] at hb'; subst hb'
      refine ⟨rb, base, hj, c.setIfInBounds (base + off) v, e, lo, hi, hnew, by simpa using h3, by simpa using h4, by simpa using h5, fun i s' hi => ?_⟩
      by_cases hio : i = off
      · subst hio
        have : s' = s := by simpa [hoff] using hi.symm
        subst this
        exact ⟨v, by simp [hlt], hv.nx r nx⟩
      · obtain ⟨u, g1, g2⟩ := h6 i s' (by simpa [List.getElem?_set, Ne.symm hio] using hi)
        exact ⟨u, by rw [Array.getElem?_setIfInBounds_ne (by omega), g1], g2.nx r nx⟩
    · have hb'' : H.map b' = some bk := by simpa [Heap.set, h] using hb'
      obtain ⟨rb', base', g1, g2⟩ := r.live b' bk hb''
      refine ⟨rb', base', g1, g2.tr nx.tr (fun _ _ h => h) (hne rb' (fun e => h ?_))⟩
      subst e
      exact r.inj _ _ _ _ _ _ _ hb'' hb g1 hj
  · have hm : ∀ x bk, (H.set b (some ⟨blk.cells.set off s, blk.ex⟩)).map x = some bk → ∃ bk', H.map x = some bk' := by
      intro x bk hx
      unfold Heap.set at hx
      by_cases h : x = b
      · subst h; exact ⟨blk, hb⟩
      · simp [h] at hx; exact ⟨bk, hx⟩
    intro b1 b2 bk1 bk2 rb1 ba1 ba2 g1 g2 g3 g4
    obtain ⟨k1, g1⟩ := hm _ _ g1
    obtain ⟨k2, g2⟩ := hm _ _ g2
    exact r.inj _ _ _ _ _ _ _ g1 g2 g3 g4

def splice : List SV → Nat → List SV → List SV
  | l, _, [] => l
  | l, o, c :: cs => splice (l.set o c) (o + 1) cs

theorem splice_length : ∀ (cs : List SV) (l : List SV) (o : Nat), (splice l o cs).length = l.length
  | [], l, o => rfl
  | c :: cs, l, o => by simp [splice, splice_length cs]

theorem Heap.set_set (H : Heap) (b : Nat) (x y : Option Blk) : (H.set b x).set b y = H.set b y := by
  unfold Heap.set
  congr 1
  funext k
  by_cases h : k = b <;> simp [h]
theorem Heap.set_same (H : Heap) (b : Nat) (x : Option Blk) (h : H.map b = x) : H.set b x = H := by
  unfold Heap.set
  have : (fun k => if k = b then x else H.map k) = H.map := by
    funext k
    by_cases hk : k = b
    · subst hk; simp [h]
    · simp [hk]
  rw [this]
theorem Heap.map_set_same (H : Heap) (b : Nat) (x : Option Blk) : (H.set b x).map b = x := by simp [Heap.set]

theorem setCells_rel : ∀ (cs : List SV) (vs : List Value) {j : JMap} {H : Heap} {w : World} (_ : Rel j H w) {b : Nat} {blk : Blk} (_ : H.map b = some blk) {rb base : Nat} (_ : j b = some (rb, base)) (off : Nat)
    (_ : off + cs.length ≤ blk.cells.length) (_ : LRel (OwnR j H) w j cs vs),
    (∀ k, k < vs.length → (w.cell? ⟨rb, base + off + k, none⟩).isSome = true) ∧ (∀ k, k < vs.length → w.frozen? ⟨rb, base + off + k, none⟩ = false) ∧
    Rel j (H.set b (some ⟨splice blk.cells off cs, blk.ex⟩)) (w.setCells rb (base + off) vs) ∧ Nx j H w j (H.set b (some ⟨splice blk.cells off cs, blk.ex⟩)) (w.setCells rb (base + off) vs)
  | [], vs, j, H, w, r, b, blk, hb, rb, base, hj, off, hl, hr => by
    simp only [LRel] at hr; subst hr
    simp only [splice, World.setCells]
    rw [H.set_same b _ (by rw [hb])]
    exact ⟨fun k hk => by simp at hk, fun k hk => by simp at hk, r, Nx.refl _ _ _⟩
  | c :: cs, vs, j, H, w, r, b, blk, hb, rb, base, hj, off, hl, hr => by
    simp only [LRel] at hr
    obtain ⟨v, rest, rfl, hv, hrest⟩ := hr
    have hoff : off < blk.cells.length := by simp at hl; omega
    obtain ⟨⟨u, h1⟩, h2, r1, n1⟩ := setCell_rel r hb hj off c v hoff hv
    have ih := setCells_rel cs rest r1 (b := b) (blk := ⟨blk.cells.set off c, blk.ex⟩) (Heap.map_set_same _ _ _) hj (off + 1) (by simp at hl ⊢; omega) (hrest.nx r n1)
    obtain ⟨g1, g2, g3, g4⟩ := ih
    rw [Heap.set_set] at g3 g4
    have e1 : base + (off + 1) = base + off + 1 := by omega
    rw [e1] at g3 g4
    refine ⟨fun k hk => ?_, fun k hk => ?_, by simpa [splice, World.setCells] using g3, by simpa [splice, World.setCells] using n1.trans g4⟩
    · cases k with
      | zero => simp [h1]
      | succ k =>
        have := g1 k (by simpa using hk)
        rw [World.cell?_setCell_other _ _ _ _ (by simp <;> omega)] at this
        rw [← this]; congr 3 <;> omega
    · cases k with
      | zero => simpa using h2
      | succ k =>
        have := g2 k (by simpa using hk)
        rw [World.frozen?_setCell] at this
        rw [← this]; congr 2; omega

theorem own_cells {j : JMap} {H : Heap} {w : World} (r : Rel j H w) {b : Nat} {blk : Blk} (hb : H.map b = some blk) {rb base : Nat} (hj : j b = some (rb, base)) {i : Nat} {s : SV} (hi : blk.cells[i]? = some s) :
    ∃ v, w.cell? ⟨rb, base + i, none⟩ = some v ∧ VRel (OwnR j H) w j s v := by
  obtain ⟨rb', base', h1, c, e, lo, hi', h2, h3, h4, h5, h6⟩ := r.live b blk hb
  rw [hj] at h1
  obtain ⟨rfl, rfl⟩ := (by simpa using h1 : rb = rb' ∧ base = base')
  obtain ⟨v, g1, g2⟩ := h6 i s hi
  exact ⟨v, by simp [World.cell?, h2, g1], g2⟩

theorem mem_list {O : Nat → Prop} {w : World} {j : JMap} : ∀ (ss : List SV) (b o : Nat), (∀ i s, ss[i]? = some s → ∃ v, w.cell? ⟨b, o + i, none⟩ = some v ∧ VRel O w j s v) →
    ∃ vs : List Value, vs.length = ss.length ∧ (∀ i v, vs[i]? = some v → w.cell? ⟨b, o + i, none⟩ = some v) ∧ LRel O w j ss vs
  | [], b, o, _ => ⟨[], rfl, fun i v h => by simp at h, by simp only [LRel]⟩
  | s :: ss, b, o, h => by
    obtain ⟨v, h1, h2⟩ := h 0 s (by simp)
    obtain ⟨vs, g1, g2, g3⟩ := mem_list ss b (o + 1) (fun i s hi => by
      have := h (i + 1) s (by simpa using hi)
      simpa [Nat.add_assoc, Nat.add_comm 1 i] using this)
    refine ⟨v :: vs, by simp [g1], fun i u hi => ?_, by simp only [LRel]; exact ⟨v, vs, rfl, h2, g3⟩⟩
    cases i with
    | zero => simp at hi; subst hi; simpa using h1
    | succ i => simpa [Nat.add_assoc, Nat.add_comm 1 i] using g2 i u (by simpa using hi)
end Go.Sh

/-
  The operations as the shadow sees them, and that the machine's operations do the same.
-/
namespace Go.Sh
open Go Go.RowKit

def szOf (P : Program) (t : TypeId) : Option Nat := (P.info? t).map (·.size)
def bytesIn (P : Program) (t : TypeId) : Option Nat := (P.info? t).map (·.bytes)
def zeroOf (P : Program) (t : TypeId) : Option (List SV) := (P.info? t).bind fun i => i.zero.map fun z => z.cells.toList.map SV.val
def isAggD : TypeDesc → Bool
  | .struct _ => true
  | .array _ _ => true
  | _ => false
def aggOf (P : Program) (t : TypeId) : Option Bool := (P.underlying t).map isAggD
def elemOfSlice (P : Program) (t : TypeId) : Option TypeId := match P.underlying t with | some (.slice e) => some e | _ => none
def fieldOf (P : Program) (t : TypeId) (f : Nat) : Option (TypeId × Nat) := match P.underlying t with | some (.struct fs) => (fs[f]?).map fun d => (d.type, d.offset) | _ => none
def arrayOf (P : Program) (t : TypeId) : Option (Nat × TypeId) := match P.underlying t with | some (.array n e) => some (n, e) | _ => none

variable {P : Program}
theorem szOf_run {t : TypeId} {n : Nat} (h : szOf P t = some n) (w : World) : (sizeOf t).run P w = .ok n w := by
  unfold szOf at h
  cases hi : P.info? t with
  | none => simp [hi] at h
  | some i => simp [hi] at h; simp [sizeOf, typeInfo, hi, h]
theorem aggOf_run {t : TypeId} {b : Bool} (h : aggOf P t = some b) (w : World) : (isAgg t).run P w = .ok b w := by
  unfold aggOf at h
  cases hu : P.underlying t with
  | none => simp [hu] at h
  | some d => simp [hu] at h; subst h; cases d <;> simp [isAgg, run_underlying hu, isAggD]
theorem elemOf_under {t e : TypeId} (h : elemOfSlice P t = some e) : P.underlying t = some (.slice e) := by
  unfold elemOfSlice at h
  split at h
  · rename_i e' hu; simp at h; subst h; exact hu
  · simp at h
def ofConst : Value → SV
  | .agg cs => .agg (cs.toList.map .val)
  | .tuple cs => .tup (cs.toList.map .val)
  | v => .val v
theorem VRel.ofConst {O : Nat → Prop} {w : World} {j : JMap} (v : Value) : VRel O w j (ofConst v) v := by
  cases v <;> simp only [Sh.ofConst, VRel]
  case agg cs => exact ⟨cs.toList, rfl, LRel.map_val _⟩
  case tuple cs => exact ⟨cs.toList, rfl, LRel.map_val _⟩

abbrev Slots := Nat → SV
def sval (σ : Slots) : Operand → SV
  | .tmp t => σ t
  | .const v => ofConst v
  | .global g => .val (.pointer (some ⟨g, 0, none⟩))
  | .func f => .clos (.func f) [] []
def upd (σ : Slots) (d : Nat) (s : SV) : Slots := fun t => if t = d then s else σ t
def updO (σ : Slots) (d : Option Nat) (s : SV) : Slots := match d with | some d => upd σ d s | none => σ

def SRel (O : Nat → Prop) (w : World) (j : JMap) (σ : Slots) (ts : Array Value) : Prop := ∀ t, VRel O w j (σ t) (ts.getD t Go.undef)

theorem SRel.eval {O : Nat → Prop} {w : World} {j : JMap} {σ : Slots} {a : Act} (h : SRel O w j σ a.tmps) (x : Operand) : VRel O w j (sval σ x) (a.eval x) := by
  cases x with
  | tmp t => exact h t
  | const v => exact VRel.ofConst v
  | global g => simp only [sval, Act.eval, VRel]
  | func f => simp only [sval, Act.eval, VRel, LRel]; exact ⟨[], [], rfl, rfl, rfl⟩

theorem SRel.put {O : Nat → Prop} {w : World} {j : JMap} {σ : Slots} {ts : Array Value} (h : SRel O w j σ ts) {d : Nat} (hd : d < ts.size) {s : SV} {v : Value} (hv : VRel O w j s v) :
    SRel O w j (upd σ d s) (ts.setIfInBounds d v) := by
  intro t
  unfold upd
  by_cases ht : t = d
  · subst ht
    simpa [Array.getD, hd] using hv
  · rw [if_neg ht]
    have := h t
    simpa [Array.getD_eq_getD_getElem?, Array.getElem?_setIfInBounds_ne (Ne.symm ht)] using this

def cellsOf : SV → Option (List SV)
  | .agg cs => some cs
  | .undef => none
  | .tup _ => none
  | .val v => if v.oneCell' then some [.val v] else none
  | s => some [s]
def flat : SV → Bool
  | .undef => false
  | .agg _ => false
  | .tup _ => false
  | .val v => v.oneCell'
  | _ => true

theorem cells_one {v : Value} (h : v.oneCell' = true) : v.cells = #[v] := by cases v <;> simp_all [Value.oneCell', Value.cells]
theorem flat_one {O : Nat → Prop} {w : World} {j : JMap} {s : SV} {v : Value} (hf : flat s = true) (h : VRel O w j s v) : v.oneCell' = true := by
  cases s with
  | undef => simp [flat] at hf
  | agg cs => simp [flat] at hf
  | tup cs => simp [flat] at hf
  | val u => simp only [VRel] at h; subst h; simpa [flat] using hf
  | row n ex cs => simp only [VRel] at h; obtain ⟨a, cap, rfl, _⟩ := h; rfl
  | rptr cs off => simp only [VRel] at h; obtain ⟨a, rfl, _⟩ := h; rfl
  | own b off n cap sz ex => simp only [VRel] at h; obtain ⟨rb, base, a, cap', c, e, fr, _, rfl, _⟩ := h; rfl
  | optr b off => simp only [VRel] at h; obtain ⟨rb, base, _, rfl⟩ := h; rfl
  | clos fn fs cs => simp only [VRel] at h; obtain ⟨us, vs, rfl, _⟩ := h; rfl
  | iface t s => simp only [VRel] at h; obtain ⟨u, rfl, _⟩ := h; rfl
theorem cells_rel {O : Nat → Prop} {w : World} {j : JMap} {s : SV} {v : Value} {cs : List SV} (hc : cellsOf s = some cs) (h : VRel O w j s v) : LRel O w j cs v.cells.toList := by
  have one : ∀ s', cellsOf s = some [s'] → s = s' → v.oneCell' = true → cs = [s'] → LRel O w j cs v.cells.toList := by
    intro s' _ e ho ec
    subst ec; subst e
    rw [cells_one ho]
    simp only [LRel]
    exact ⟨v, [], rfl, h, rfl⟩
  cases s with
  | undef => simp [cellsOf] at hc
  | tup cs => simp [cellsOf] at hc
  | agg cs' =>
    simp [cellsOf] at hc; subst hc
    simp only [VRel] at h
    obtain ⟨vs, rfl, h⟩ := h
    simpa [Value.cells] using h
  | val u =>
    simp only [cellsOf] at hc
    split at hc
    · rename_i ho
      refine one _ (by simp [cellsOf, ho]) rfl ?_ (by simpa using hc.symm)
      simp only [VRel] at h; subst h; exact ho
    · simp at hc
  | row n ex cs' => exact one _ rfl rfl (flat_one rfl h) (by simpa [cellsOf] using hc.symm)
  | rptr cs' off => exact one _ rfl rfl (flat_one rfl h) (by simpa [cellsOf] using hc.symm)
  | own b off n cap sz ex => exact one _ rfl rfl (flat_one rfl h) (by simpa [cellsOf] using hc.symm)
  | optr b off => exact one _ rfl rfl (flat_one rfl h) (by simpa [cellsOf] using hc.symm)
  | clos fn fs cs' => exact one _ rfl rfl (flat_one rfl h) (by simpa [cellsOf] using hc.symm)
  | iface t s => exact one _ rfl rfl (flat_one rfl h) (by simpa [cellsOf] using hc.symm)
theorem LRel.ones {O : Nat → Prop} {w : World} {j : JMap} : ∀ {ss : List SV} {vs : List Value}, ss.all flat = true → LRel O w j ss vs → ∀ v ∈ vs, v.oneCell' = true
  | [], vs, _, h => by simp only [LRel] at h; subst h; simp
  | s :: ss, vs, hf, h => by
    simp only [LRel] at h
    obtain ⟨v, rest, rfl, h1, h2⟩ := h
    simp only [List.all_cons, Bool.and_eq_true] at hf
    intro u hu
    rcases List.mem_cons.1 hu with rfl | hu
    · exact flat_one hf.1 h1
    · exact LRel.ones hf.2 h2 u hu

def Sim (P : Program) (m : Sem Value) (j : JMap) (H : Heap) (w : World) (s : SV) (H' : Heap) : Prop :=
  ∃ v w' j', m.run P w = .ok v w' ∧ Rel j' H' w' ∧ VRel (OwnR j' H') w' j' s v ∧ Nx j H w j' H' w'
theorem Sim.same {m : Sem Value} {j : JMap} {H : Heap} {w : World} {s : SV} {v : Value} (r : Rel j H w) (h : m.run P w = .ok v w) (hv : VRel (OwnR j H) w j s v) : Sim P m j H w s H :=
  ⟨v, w, j, h, r, hv, Nx.refl _ _ _⟩

theorem Addr.add_add (a : Addr) (m n : Nat) : (a.add m).add n = a.add (m + n) := by
  unfold Go.Addr.add
  by_cases hm : m = 0 <;> by_cases hn : n = 0 <;> simp [hm, hn, Nat.add_assoc]

def AtMem (O : Nat → Prop) (w : World) (j : JMap) (cs : List SV) (a : Addr) : Prop :=
  ∀ i s, cs[i]? = some s → a.spot = none ∧ ∃ v, w.cell? ⟨a.block, a.off + i, none⟩ = some v ∧ VRel O w j s v

def pick (P : Program) (t : TypeId) (cs : List SV) (off : Nat) : Option SV :=
  match aggOf P t with
  | some true => match szOf P t with
    | some n => if off + n ≤ cs.length then some (.agg ((cs.drop off).take n)) else none
    | none => none
  | some false => cs[off]?
  | none => none

theorem pick_run {O : Nat → Prop} {w : World} {j : JMap} {t : TypeId} {cs : List SV} {off : Nat} {a : Addr} {s : SV} (hp : pick P t cs off = some s) (hm : AtMem O w j cs a) :
    ∃ v, (loadVar t (a.add off)).run P w = .ok v w ∧ VRel O w j s v := by
  unfold pick at hp
  split at hp
  · rename_i hagg
    split at hp
    · rename_i n hn
      split at hp
      · rename_i hle
        simp at hp; subst hp
        by_cases h0 : n = 0
        · subst h0
          refine ⟨.agg #[], by simp [loadVar, aggOf_run hagg, szOf_run hn, loadCells, loadCellsFrom], ?_⟩
          simp only [VRel]
          exact ⟨[], rfl, by simp only [List.take_zero, LRel]⟩
        · have hspot : a.spot = none := (hm off _ (by rw [List.getElem?_eq_getElem (by omega)])).1
          obtain ⟨ab, ao, sp⟩ := a
          simp at hspot; subst hspot
          obtain ⟨vs, h1, h2, h3⟩ := mem_list (O := O) (w := w) (j := j) ((cs.drop off).take n) ab (ao + off) (fun i s' hi => by
            have hi' : cs[off + i]? = some s' := by
              rw [List.getElem?_take] at hi
              split at hi
              · simpa [List.getElem?_drop] using hi
              · simp at hi
            obtain ⟨_, v, g1, g2⟩ := hm _ _ hi'
            exact ⟨v, by simpa [Nat.add_assoc] using g1, g2⟩)
          have hl : vs.length = n := by simp [h1]; omega
          have hrun := run_loadCells_list (P := P) w (⟨ab, ao + off, none⟩ : Addr) vs (fun i v hi => by
            rw [Addr.add_lit]; exact h2 i v hi)
          refine ⟨.agg vs.toArray, ?_, by simp only [VRel]; exact ⟨vs, rfl, h3⟩⟩
          rw [hl] at hrun
          simp [loadVar, aggOf_run hagg, szOf_run hn, Addr.add_lit, hrun]
      · simp at hp
    · simp at hp
  · rename_i hagg
    obtain ⟨hs, v, h1, h2⟩ := hm off s hp
    obtain ⟨ab, ao, sp⟩ := a
    simp at hs; subst hs
    exact ⟨v, by simp [loadVar, aggOf_run hagg, Addr.add_lit, h1], h2⟩
  · simp at hp

theorem atMem_row {O : Nat → Prop} {w : World} {j : JMap} {cs : List SV} {a : Addr} (h : CRel O w cs a) : AtMem O w j cs a := by
  intro i s hi
  obtain ⟨v, h1, _, h3, h4⟩ := h.get hi
  exact ⟨h1, v, h3, h4.of_noj⟩
theorem atMem_own {j : JMap} {H : Heap} {w : World} (r : Rel j H w) {b : Nat} {blk : Blk} (hb : H.map b = some blk) {rb base : Nat} (hj : j b = some (rb, base)) : AtMem (OwnR j H) w j blk.cells ⟨rb, base, none⟩ :=
  fun _ _ hi => ⟨rfl, own_cells r hb hj hi⟩

def sload (P : Program) (H : Heap) (t : TypeId) : SV → Option SV
  | .rptr cs off => pick P t cs off
  | .optr b off => match H.map b with
    | some blk => pick P t blk.cells off
    | none => none
  | _ => none

theorem sload_var {j : JMap} {H : Heap} {w : World} {t : TypeId} {x s : SV} {v : Value} (h : sload P H t x = some s) (r : Rel j H w) (hx : VRel (OwnR j H) w j x v) :
    ∃ a u, v = .pointer (some a) ∧ (loadVar t a).run P w = .ok u w ∧ VRel (OwnR j H) w j s u := by
  cases x with
  | rptr cs off =>
    simp only [VRel] at hx
    obtain ⟨a, rfl, hc⟩ := hx
    obtain ⟨u, h1, h2⟩ := pick_run (w := w) (j := j) (a := a) h (atMem_row hc)
    exact ⟨_, u, rfl, h1, h2⟩
  | optr b off =>
    simp only [sload] at h
    split at h
    · rename_i blk hb
      simp only [VRel] at hx
      obtain ⟨rb, base, hj, rfl⟩ := hx
      obtain ⟨u, h1, h2⟩ := pick_run (w := w) (j := j) (a := ⟨rb, base, none⟩) h (atMem_own r hb hj)
      rw [Addr.add_lit] at h1
      exact ⟨_, u, rfl, h1, h2⟩
    · simp at h
  | _ => simp [sload] at h
theorem sload_sound {j : JMap} {H : Heap} {w : World} {t : TypeId} {x s : SV} {v : Value} (h : sload P H t x = some s) (r : Rel j H w) (hx : VRel (OwnR j H) w j x v) : Sim P (Instr.loadAt t v) j H w s H := by
  obtain ⟨a, u, rfl, h1, h2⟩ := sload_var h r hx
  exact Sim.same r (by simp [Instr.loadAt, Instr.sureAddr, h1]) h2

def sstore (P : Program) (H : Heap) (t : TypeId) (a x : SV) : Option Heap :=
  match a with
  | .optr b off => match H.map b, cellsOf x with
    | some blk, some cs => if szOf P t = some cs.length ∧ cs.all flat = true ∧ off + cs.length ≤ blk.cells.length then some (H.set b (some ⟨splice blk.cells off cs, blk.ex⟩)) else none
    | _, _ => none
  | _ => none

theorem sstore_sound {j : JMap} {H H' : Heap} {w : World} {t : TypeId} {a x : SV} {va vx : Value} (h : sstore P H t a x = some H') (r : Rel j H w) (ha : VRel (OwnR j H) w j a va) (hx : VRel (OwnR j H) w j x vx) :
    ∃ w', (Instr.storeAt t va vx).run P w = .ok () w' ∧ Rel j H' w' ∧ Nx j H w j H' w' := by
  cases a with
  | optr b off =>
    simp only [sstore] at h
    split at h
    · rename_i blk cs hb hc
      split at h
      · rename_i hcond
        obtain ⟨h1, h2, h3⟩ := hcond
        simp at h; subst h
        simp only [VRel] at ha
        obtain ⟨rb, base, hj, rfl⟩ := ha
        have hl := cells_rel hc hx
        obtain ⟨g1, g2, g3, g4⟩ := setCells_rel cs vx.cells.toList r hb hj off h3 hl
        have hlen := hl.length
        have hst := run_storeCells_cells (P := P) rb (base + off) vx.cells.toList 0 w (by simpa using g1) (by simpa using g2) (LRel.ones h2 hl)
        refine ⟨_, ?_, g3, g4⟩
        have hsz : vx.cells.size = cs.length := by simpa using hlen
        simp [Instr.storeAt, Instr.sureAddr, storeVar, szOf_run h1, hsz]
        simpa using hst
      · simp at h
    · simp at h
  | _ => simp [sstore] at h

def sindexAddr (P : Program) (t : TypeId) (x i : SV) : Option SV :=
  match i with
  | .val (.int _ i) => match elemOfSlice P t with
    | some e => match szOf P e with
      | some z => match x with
        | .row n _ cs => if 0 ≤ i ∧ i < n then some (.rptr cs (i.toNat * z)) else none
        | .own b off n _ _ _ => if 0 ≤ i ∧ i < n then some (.optr b (off + i.toNat * z)) else none
        | _ => none
      | none => none
    | none => match arrayOf P t with
      | some (n, e) => match szOf P e with
        | some z => match x with
          | .rptr cs off => if 0 ≤ i ∧ i < n then some (.rptr cs (off + i.toNat * z)) else none
          | .optr b off => if 0 ≤ i ∧ i < n then some (.optr b (off + i.toNat * z)) else none
          | _ => none
        | none => none
      | none => none
  | _ => none

theorem arrayOf_under {t e : TypeId} {n : Nat} (h : arrayOf P t = some (n, e)) : P.underlying t = some (.array n e) := by
  unfold arrayOf at h
  split at h
  · rename_i n' e' hu; simp at h; obtain ⟨rfl, rfl⟩ := h; exact hu
  · simp at h

theorem sindexAddr_sound {j : JMap} {H : Heap} {w : World} {t : TypeId} {x i s : SV} {vx vi : Value} (h : sindexAddr P t x i = some s) (r : Rel j H w) (hx : VRel (OwnR j H) w j x vx) (hi : VRel (OwnR j H) w j i vi) :
    Sim P (Instr.indexAt t vx vi) j H w s H := by
  unfold sindexAddr at h
  split at h
  · rename_i k i
    simp only [VRel] at hi; subst hi
    split at h
    · rename_i e he
      have hu := elemOf_under he
      split at h
      · rename_i z hz
        split at h
        · rename_i n ex cs
          split at h
          · rename_i hb
            simp at h; subst h
            simp only [VRel] at hx
            obtain ⟨a0, cap, rfl, h1, h2, hc⟩ := hx
            have hc' : ∃ a, a0 = some a ∧ CRel (OwnR j H) w cs a := hc.resolve_left (fun hn => by omega)
            obtain ⟨a, rfl, hc2⟩ := hc'
            refine Sim.same r (v := .pointer (some (a.add (i.toNat * z)))) ?_ (by simp only [VRel]; exact ⟨a, rfl, hc2⟩)
            simp [Instr.indexAt, asIntOf, run_underlying hu, hb.1, hb.2, szOf_run hz]
          · simp at h
        · rename_i b off n cap sz ex
          split at h
          · rename_i hb
            simp at h; subst h
            simp only [VRel] at hx
            obtain ⟨rb, base, a, cap', c, e', fr, g1, rfl, g3, g4, g5, g6, g7, g8⟩ := hx
            have ha : a = ⟨rb, base + off, none⟩ := g6.resolve_left (by omega)
            subst ha
            refine Sim.same r (v := .pointer (some ⟨rb, base + (off + i.toNat * z), none⟩)) ?_ (by simp only [VRel]; exact ⟨rb, base, g1, rfl⟩)
            simp [Instr.indexAt, asIntOf, run_underlying hu, hb.1, hb.2, szOf_run hz, Addr.add_lit, Nat.add_assoc]
          · simp at h
        · simp at h
      · simp at h
    · split at h
      · rename_i n e he
        have hu := arrayOf_under he
        split at h
        · rename_i z hz
          split at h
          · rename_i cs off
            split at h
            · rename_i hb
              simp at h; subst h
              simp only [VRel] at hx
              obtain ⟨a, rfl, hc⟩ := hx
              refine Sim.same r (v := .pointer (some (a.add (off + i.toNat * z)))) ?_ (by simp only [VRel]; exact ⟨a, rfl, hc⟩)
              simp [Instr.indexAt, asIntOf, run_underlying hu, Instr.sureAddr, hb.1, hb.2, szOf_run hz, Addr.add_add]
            · simp at h
          · rename_i b off
            split at h
            · rename_i hb
              simp at h; subst h
              simp only [VRel] at hx
              obtain ⟨rb, base, g1, rfl⟩ := hx
              refine Sim.same r (v := .pointer (some ⟨rb, base + (off + i.toNat * z), none⟩)) ?_ (by simp only [VRel]; exact ⟨rb, base, g1, rfl⟩)
              simp [Instr.indexAt, asIntOf, run_underlying hu, Instr.sureAddr, hb.1, hb.2, szOf_run hz, Addr.add_lit, Nat.add_assoc]
            · simp at h
          · simp at h
        · simp at h
      · simp at h
  · simp at h

def sfieldAddr (P : Program) (t : TypeId) (f : Nat) (x : SV) : Option SV :=
  match fieldOf P t f with
  | some (ft, fo) => match szOf P ft with
    | some (_ + 1) => match x with
      | .rptr cs off => some (.rptr cs (off + fo))
      | .optr b off => some (.optr b (off + fo))
      | _ => none
    | _ => none
  | none => none

theorem fieldOf_under {t ft : TypeId} {f fo : Nat} (h : fieldOf P t f = some (ft, fo)) : ∃ fs d, P.underlying t = some (.struct fs) ∧ fs[f]? = some d ∧ d.type = ft ∧ d.offset = fo := by
  unfold fieldOf at h
  split at h
  · rename_i fs hu
    cases hd : fs[f]? with
    | none => simp [hd] at h
    | some d => simp [hd] at h; exact ⟨fs, d, hu, hd, h.1, h.2⟩
  · simp at h

theorem sfieldAddr_sound {j : JMap} {H : Heap} {w : World} {t : TypeId} {f : Nat} {x s : SV} {vx : Value} (h : sfieldAddr P t f x = some s) (r : Rel j H w) (hx : VRel (OwnR j H) w j x vx) :
    Sim P (Instr.fieldAt t vx f) j H w s H := by
  unfold sfieldAddr at h
  split at h
  · rename_i ft fo hf
    obtain ⟨fs, d, hu, hd, rfl, rfl⟩ := fieldOf_under hf
    split at h
    · rename_i z hz
      split at h
      · rename_i cs off
        simp at h; subst h
        simp only [VRel] at hx
        obtain ⟨a, rfl, hc⟩ := hx
        refine Sim.same r (v := .pointer (some (a.add (off + d.offset)))) ?_ (by simp only [VRel]; exact ⟨a, rfl, hc⟩)
        simp [Instr.fieldAt, run_underlying hu, hd, Instr.sureAddr, fieldPlace, szOf_run hz, Addr.add_add]
      · rename_i b off
        simp at h; subst h
        simp only [VRel] at hx
        obtain ⟨rb, base, g1, rfl⟩ := hx
        refine Sim.same r (v := .pointer (some ⟨rb, base + (off + d.offset), none⟩)) ?_ (by simp only [VRel]; exact ⟨rb, base, g1, rfl⟩)
        simp [Instr.fieldAt, run_underlying hu, hd, Instr.sureAddr, fieldPlace, szOf_run hz, Addr.add_lit, Nat.add_assoc]
      · simp at h
    · simp at h
  · simp at h

def spart (P : Program) (t : TypeId) (off : Nat) : SV → Option SV
  | .agg cs => pick P t cs off
  | _ => none
theorem spart_run {O : Nat → Prop} {w : World} {j : JMap} {t : TypeId} {off : Nat} {x s : SV} {vx : Value} (h : spart P t off x = some s) (hx : VRel O w j x vx) :
    ∃ cs v, vx = .agg cs ∧ (part t cs off).run P w = .ok v w ∧ VRel O w j s v := by
  cases x with
  | agg cs =>
    simp only [VRel] at hx
    obtain ⟨vs, rfl, hl⟩ := hx
    simp only [spart, pick] at h
    split at h
    · rename_i hagg
      split at h
      · rename_i n hn
        split at h
        · rename_i hle
          simp at h; subst h
          refine ⟨vs.toArray, .agg (vs.toArray.extract off (off + n)), rfl, by simp [part, aggOf_run hagg, szOf_run hn], ?_⟩
          simp only [VRel]
          refine ⟨(vs.drop off).take n, by simp, LRel.mk (by simp [hl.length]) (fun i s v hi hv => ?_)⟩
          have h1 : cs[off + i]? = some s := by
            rw [List.getElem?_take] at hi
            split at hi
            · simpa [List.getElem?_drop] using hi
            · simp at hi
          have h2 : vs[off + i]? = some v := by
            rw [List.getElem?_take] at hv
            split at hv
            · simpa [List.getElem?_drop] using hv
            · simp at hv
          obtain ⟨u, g1, g2⟩ := hl.get h1
          rw [h2] at g1; simp at g1; subst g1; exact g2
        · simp at h
      · simp at h
    · rename_i hagg
      obtain ⟨v, g1, g2⟩ := hl.get h
      exact ⟨vs.toArray, v, rfl, by simp [part, aggOf_run hagg, g1], g2⟩
    · simp at h
  | _ => simp [spart] at h

def sfield (P : Program) (t : TypeId) (f : Nat) (x : SV) : Option SV :=
  match fieldOf P t f with
  | some (ft, fo) => spart P ft fo x
  | none => none
theorem sfield_sound {j : JMap} {H : Heap} {w : World} {t : TypeId} {f : Nat} {x s : SV} {vx : Value} (h : sfield P t f x = some s) (r : Rel j H w) (hx : VRel (OwnR j H) w j x vx) :
    Sim P (Instr.field t vx f) j H w s H := by
  unfold sfield at h
  split at h
  · rename_i ft fo hf
    obtain ⟨fs, d, hu, hd, rfl, rfl⟩ := fieldOf_under hf
    obtain ⟨cs, v, rfl, h1, h2⟩ := spart_run h hx
    exact Sim.same r (by simp [Instr.field, run_underlying hu, hd, asAgg, h1]) h2
  · simp at h

def sindex (P : Program) (t : TypeId) (x i : SV) : Option SV :=
  match i with
  | .val (.int _ i) => match arrayOf P t with
    | some (n, e) => match szOf P e with
      | some z => if 0 ≤ i ∧ i < n then spart P e (i.toNat * z) x else none
      | none => none
    | none => match P.underlying t, x with
      | some .string, .val (.string s) => if h : 0 ≤ i ∧ i.toNat < s.size then some (.val (.int .u8 (s[i.toNat]'h.2).toNat)) else none
      | _, _ => none
  | _ => none
theorem sindex_sound {j : JMap} {H : Heap} {w : World} {t : TypeId} {x i s : SV} {vx vi : Value} (h : sindex P t x i = some s) (r : Rel j H w) (hx : VRel (OwnR j H) w j x vx) (hi : VRel (OwnR j H) w j i vi) :
    Sim P (Instr.index t vx vi) j H w s H := by
  unfold sindex at h
  split at h
  · rename_i k i
    simp only [VRel] at hi; subst hi
    split at h
    · rename_i n e he
      have hu := arrayOf_under he
      split at h
      · rename_i z hz
        split at h
        · rename_i hb
          obtain ⟨cs, v, rfl, h1, h2⟩ := spart_run h hx
          exact Sim.same r (by simp [Instr.index, asIntOf, run_underlying hu, hb.1, hb.2, szOf_run hz, h1]) h2
        · simp at h
      · simp at h
    · split at h
      · rename_i _ s' hu
        split at h
        · rename_i hb
          simp only [VRel] at hx; subst hx
          simp at h; subst h
          refine Sim.same r (v := .int .u8 (s'[i.toNat]'hb.2).toNat) ?_ (by simp only [VRel])
          simp [Instr.index, asIntOf, run_underlying hu, hb.1, hb.2]
        · simp at h
      · simp at h
  · simp at h
end Go.Sh

/-
  The operations, further: slices cut, made, appended to, copied; literals; arithmetic and comparisons; len, cap, min, max.
-/
namespace Go.Sh
open Go Go.RowKit
variable {P : Program}

def natOf : SV → Option Nat
  | .val (.int _ i) => if 0 ≤ i then some i.toNat else none
  | _ => none
def bnd (d : Nat) : Option SV → Option Nat
  | none => some d
  | some s => natOf s

theorem natOf_rel {O : Nat → Prop} {w : World} {j : JMap} {s : SV} {v : Value} {n : Nat} (h : natOf s = some n) (hv : VRel O w j s v) : ∃ k, v = .int k n := by
  unfold natOf at h
  split at h
  · rename_i k i
    split at h
    · rename_i h0
      simp at h
      simp only [VRel] at hv
      subst hv
      exact ⟨k, by congr 1; omega⟩
    · simp at h
  · simp at h

theorem bounds_run (isS : Bool) (len cap : Nat) (lo hi mx : Option Value) (l h m : Nat) (w : World) (hlo : (lo = none ∧ l = 0) ∨ ∃ k, lo = some (.int k l)) (hhi : (hi = none ∧ mx = none ∧ h = len) ∨ ∃ k, hi = some (.int k h))
    (hmx : (mx = none ∧ m = cap) ∨ ∃ k, mx = some (.int k m)) (h1 : l ≤ h) (h2 : h ≤ m) (h3 : m ≤ cap) : (Instr.sliceBounds isS len cap lo hi mx).run P w = .ok (l, h, m) w := by
  rcases hlo with ⟨rfl, rfl⟩ | ⟨kl, rfl⟩ <;> rcases hhi with ⟨rfl, hm0, rfl⟩ | ⟨kh, rfl⟩ <;> rcases hmx with ⟨rfl, rfl⟩ | ⟨km, rfl⟩ <;>
    first
      | (simp at hm0; done)
      | (simp [Instr.sliceBounds, Instr.sliceBound, asIntOf, h1, h2, h3]; done)
      | (simp [Instr.sliceBounds, Instr.sliceBound, asIntOf, h1, h2, h3]; omega)

theorem bnd_rel {O : Nat → Prop} {w : World} {j : JMap} {d n : Nat} {s : Option SV} {v : Option Value} (h : bnd d s = some n) (hv : ∀ x, s = some x → ∃ u, v = some u ∧ VRel O w j x u) (hn : s = none → v = none) :
    (s = none ∧ v = none ∧ n = d) ∨ ∃ k, v = some (.int k n) := by
  cases s with
  | none => simp [bnd] at h; exact .inl ⟨rfl, hn rfl, h.symm⟩
  | some x =>
    obtain ⟨u, rfl, hu⟩ := hv x rfl
    obtain ⟨k, rfl⟩ := natOf_rel (by simpa [bnd] using h) hu
    exact .inr ⟨k, rfl⟩

theorem CRel.drop' {O : Nat → Prop} {w : World} {ss : List SV} {a : Addr} (i : Nat) (h : CRel O w ss a) : CRel O w (ss.drop i) (a.add i) := by
  have := CRel.drop i h
  unfold Go.Addr.add
  by_cases h0 : i = 0
  · simpa [h0] using this
  · simp only [h0, if_false] at this ⊢
    exact this

def sslice (P : Program) (H : Heap) (t : TypeId) (x : SV) (lo hi mx : Option SV) : Option SV :=
  if hi.isNone && mx.isSome then none else
  match P.underlying t with
  | some .string => match x, mx with
    | .val (.string s), none => match bnd 0 lo, bnd s.size hi with
      | some l, some h => if l ≤ h ∧ h ≤ s.size then some (.val (.string (s.extract l h))) else none
      | _, _ => none
    | _, _ => none
  | some (.slice e) => match szOf P e with
    | some z => match x with
      | .val (.slice none 0 0) => match bnd 0 lo, bnd 0 hi, bnd 0 mx with
        | some 0, some 0, some 0 => some (.val (.slice none 0 0))
        | _, _, _ => none
      | .row n ex cs => match bnd 0 lo, bnd n hi, bnd n mx with
        | some l, some h, some m => if l ≤ h ∧ h ≤ m ∧ m ≤ n then some (.row (h - l) (match mx with | some _ => m == h | none => ex && h == n) ((cs.drop (l * z)).take ((h - l) * z))) else none
        | _, _, _ => none
      | .own b off n cap sz ex => match bnd 0 lo, bnd n hi, bnd cap mx with
        | some l, some h, some m => if l ≤ h ∧ h ≤ m ∧ m ≤ cap ∧ sz = z then some (.own b (off + l * z) (h - l) (m - l) z (mx.isSome || ex)) else none
        | _, _, _ => none
      | _ => none
    | none => none
  | some (.array n e) => match szOf P e with
    | some z => match x with
      | .optr b off => match H.map b with
        | some blk => match bnd 0 lo, bnd n hi, bnd n mx with
          | some l, some h, some m => if l ≤ h ∧ h ≤ m ∧ m ≤ n ∧ off + n * z ≤ blk.cells.length then some (.own b (off + l * z) (h - l) (m - l) z true) else none
          | _, _, _ => none
        | none => none
      | .rptr cs off => match bnd 0 lo, bnd n hi, bnd n mx with
        | some l, some h, some m => if l ≤ h ∧ h ≤ m ∧ m ≤ n then some (.row (h - l) (m == h) ((cs.drop (off + l * z)).take ((h - l) * z))) else none
        | _, _, _ => none
      | _ => none
    | none => none
  | _ => none

theorem bnd_hi {O : Nat → Prop} {w : World} {j : JMap} {d n : Nat} {hi mx : Option SV} {vhi vmx : Option Value} (hc : ¬ (hi.isNone && mx.isSome) = true) (h : bnd d hi = some n)
    (h1 : ∀ x, hi = some x → ∃ u, vhi = some u ∧ VRel O w j x u) (h2 : hi = none → vhi = none) (h3 : mx = none → vmx = none) :
    (vhi = none ∧ vmx = none ∧ n = d) ∨ ∃ k, vhi = some (.int k n) := by
  rcases bnd_rel h h1 h2 with ⟨rfl, h4, h5⟩ | h4
  · cases mx with
    | none => exact .inl ⟨h4, h3 rfl, h5⟩
    | some m => simp at hc
  · exact .inr h4

theorem sslice_sound {j : JMap} {H : Heap} {w : World} {t : TypeId} {x s : SV} {lo hi mx : Option SV} {vx : Value} {vlo vhi vmx : Option Value} (h : sslice P H t x lo hi mx = some s) (r : Rel j H w)
    (hx : VRel (OwnR j H) w j x vx) (hlo : ∀ y, lo = some y → ∃ u, vlo = some u ∧ VRel (OwnR j H) w j y u) (hlo' : lo = none → vlo = none)
    (hhi : ∀ y, hi = some y → ∃ u, vhi = some u ∧ VRel (OwnR j H) w j y u) (hhi' : hi = none → vhi = none)
    (hmx : ∀ y, mx = some y → ∃ u, vmx = some u ∧ VRel (OwnR j H) w j y u) (hmx' : mx = none → vmx = none) :
    Sim P (Instr.sliceAt t vx vlo vhi vmx) j H w s H := by
  unfold sslice at h
  split at h
  · simp at h
  rename_i hc
  split at h
  · rename_i hu
    split at h
    · rename_i _ _ s'
      simp only [VRel] at hx; subst hx
      have := hmx' rfl; subst this
      split at h
      · rename_i l hh el eh
        split at h
        · rename_i hb
          simp at h; subst h
          have b1 := bnd_rel el hlo hlo'
          have b2 := bnd_hi hc eh hhi hhi' hmx'
          have hr := bounds_run (P := P) false s'.size s'.size vlo vhi none l hh s'.size w (by rcases b1 with ⟨_, a, b⟩ | a; exact .inl ⟨a, b⟩; exact .inr a) b2 (.inl ⟨rfl, rfl⟩) hb.1 hb.2 (Nat.le_refl _)
          refine Sim.same r (v := .string (s'.extract l hh)) ?_ (by simp only [VRel])
          simp [Instr.sliceAt, Instr.slice, run_underlying hu, hr]
        · simp at h
      · simp at h
    · simp at h
  · rename_i e hu
    split at h
    · rename_i z hz
      have hel : P.underlying t = some (.slice (P.elem t)) := by
        have : P.elem t = e := by simp [Program.elem, hu]
        rw [this]; exact hu
      have hee : P.elem t = e := by simp [Program.elem, hu]
      have hz' : ∀ w : World, (sizeOf (P.elem t)).run P w = .ok z w := fun w => by rw [hee]; exact szOf_run hz w
      have key : ∀ (a : Option Addr) (len cap l hh m : Nat), (Instr.sliceBounds true len cap vlo vhi vmx).run P w = .ok (l, hh, m) w →
          (Instr.sliceAt t (.slice a len cap) vlo vhi vmx).run P w = .ok (.slice (if m = l then a else a.map (·.add (l * z))) (hh - l) (m - l)) w := by
        intro a len cap l hh m hr
        rw [run_sliceAt_slice (P := P) w t _ _ _ _ hel, run_slice_any (P := P) w t a len cap hel, hr]
        simp [Result.andThen, hz', sliced]
      split at h
      · simp only [VRel] at hx; subst hx
        split at h
        · rename_i el eh em
          simp at h; subst h
          have b1 := bnd_rel el hlo hlo'
          have b2 := bnd_hi hc eh hhi hhi' hmx'
          have b3 := bnd_rel em hmx hmx'
          have hr := bounds_run (P := P) true 0 0 vlo vhi vmx 0 0 0 w (by rcases b1 with ⟨_, a, b⟩ | a; exact .inl ⟨a, rfl⟩; exact .inr a) b2 (by rcases b3 with ⟨_, a, b⟩ | a; exact .inl ⟨a, rfl⟩; exact .inr a) (Nat.le_refl _) (Nat.le_refl _) (Nat.le_refl _)
          refine Sim.same r (v := .slice none 0 0) ?_ (by simp only [VRel])
          rw [key _ _ _ _ _ _ hr]; simp
        · simp at h
      · rename_i n ex cs
        split at h
        · rename_i l hh m el eh em
          split at h
          · rename_i hb
            simp at h; subst h
            simp only [VRel] at hx
            obtain ⟨a, cap, rfl, g1, g2, g3⟩ := hx
            have b1 := bnd_rel el hlo hlo'
            have b2 := bnd_hi hc eh hhi hhi' hmx'
            have b3 := bnd_rel em hmx hmx'
            have hlast : ∃ m', (Instr.sliceBounds true n cap vlo vhi vmx).run P w = .ok (l, hh, m') w ∧ hh ≤ m' ∧ ((mx = none ∧ m' = cap) ∨ (mx.isSome ∧ m' = m)) := by
              rcases b3 with ⟨c1, c2, c3⟩ | ⟨k, c⟩
              · exact ⟨cap, bounds_run true n cap vlo vhi vmx l hh cap w (by rcases b1 with ⟨_, a, b⟩ | a; exact .inl ⟨a, b⟩; exact .inr a) b2 (.inl ⟨c2, rfl⟩) hb.1 (by omega) (Nat.le_refl _), by omega, .inl ⟨c1, rfl⟩⟩
              · refine ⟨m, bounds_run true n cap vlo vhi vmx l hh m w (by rcases b1 with ⟨_, a, b⟩ | a; exact .inl ⟨a, b⟩; exact .inr a) b2 (.inr ⟨k, c⟩) hb.1 hb.2.1 (by omega), hb.2.1, ?_⟩
                cases mx with
                | none => simp at hmx'; subst hmx'; simp at c
                | some y => exact .inr ⟨rfl, rfl⟩
            obtain ⟨m', hr, hle, hcase⟩ := hlast
            refine Sim.same r (key _ _ _ _ _ _ hr) ?_
            simp only [VRel]
            refine ⟨if m' = l then a else a.map (·.add (l * z)), m' - l, rfl, by omega, ?_, ?_⟩
            · intro hx
              rcases hcase with ⟨rfl, rfl⟩ | ⟨c1, rfl⟩
              · simp at hx
                have := g2 hx.1
                omega
              · cases mx with
                | none => simp at c1
                | some y => simp at hx; omega
            · rcases g3 with ⟨rfl, rfl, rfl, rfl⟩ | ⟨b, rfl, g3⟩
              · left
                have h0 : m' = 0 := by
                  rcases hcase with ⟨_, e⟩ | ⟨_, e⟩ <;> omega
                exact ⟨by simp, by omega, by omega, by simp⟩
              · right
                by_cases hml : m' = l
                · have : hh - l = 0 := by omega
                  exact ⟨b, by simp [hml], by simp only [this, Nat.zero_mul, List.take_zero, CRel]⟩
                · exact ⟨b.add (l * z), by simp [hml], (CRel.drop' _ g3).take _⟩
          · simp at h
        · simp at h
      · rename_i b off n cap sz ex
        split at h
        · rename_i l hh m el eh em
          split at h
          · rename_i hb
            obtain ⟨hb1, hb2, hb3, rfl⟩ := hb
            simp at h; subst h
            simp only [VRel] at hx
            obtain ⟨rb, base, a, cap', c, e', fr, g1, rfl, g3, g4, g5, g6, g7, g8⟩ := hx
            have b1 := bnd_rel el hlo hlo'
            have b2 := bnd_hi hc eh hhi hhi' hmx'
            have b3 := bnd_rel em hmx hmx'
            have hlast : ∃ m', (Instr.sliceBounds true n cap' vlo vhi vmx).run P w = .ok (l, hh, m') w ∧ m ≤ m' ∧ m' ≤ cap' ∧ ((mx = none ∧ m' = cap' ∧ m = cap) ∨ (mx.isSome ∧ m' = m)) := by
              rcases b3 with ⟨c1, c2, c3⟩ | ⟨k, c⟩
              · exact ⟨cap', bounds_run true n cap' vlo vhi vmx l hh cap' w (by rcases b1 with ⟨_, a, b⟩ | a; exact .inl ⟨a, b⟩; exact .inr a) b2 (.inl ⟨c2, rfl⟩) hb1 (by omega) (Nat.le_refl _), by omega, Nat.le_refl _, .inl ⟨c1, rfl, c3⟩⟩
              · refine ⟨m, bounds_run true n cap' vlo vhi vmx l hh m w (by rcases b1 with ⟨_, a, b⟩ | a; exact .inl ⟨a, b⟩; exact .inr a) b2 (.inr ⟨k, c⟩) hb1 hb2 (by omega), Nat.le_refl _, by omega, ?_⟩
                cases mx with
                | none => simp at hmx'; subst hmx'; simp at c
                | some y => exact .inr ⟨rfl, rfl⟩
            obtain ⟨m', hr, hle, hle', hcase⟩ := hlast
            refine Sim.same r (key _ _ _ _ _ _ hr) ?_
            simp only [VRel]
            refine ⟨rb, base, if m' = l then a else a.add (l * sz), m' - l, c, e', fr, g1, by split <;> simp, by omega, by omega, ?_, ?_, g7, ?_⟩
            · intro hx
              rcases hcase with ⟨rfl, rfl, rfl⟩ | ⟨c1, rfl⟩
              · simp at hx
                have := g5 hx
                omega
              · rfl
            · by_cases hml : m' = l
              · exact .inl (by omega)
              · right
                have ha : a = ⟨rb, base + off, none⟩ := g6.resolve_left (by omega)
                rw [if_neg hml, ha, Addr.add_lit, Nat.add_assoc]
            · have e1 : base + (off + l * sz) + (m' - l) * sz = base + off + (l + (m' - l)) * sz := by rw [Nat.add_mul]; omega
              have e2 : (l + (m' - l)) * sz ≤ cap' * sz := Nat.mul_le_mul_right _ (by omega)
              omega
          · simp at h
        · simp at h
      · simp at h
    · simp at h
  · rename_i n e hu
    split at h
    · rename_i z hz
      split at h
      · rename_i b off
        split at h
        · rename_i blk hb
          split at h
          · rename_i l hh m el eh em
            split at h
            · rename_i hcnd
              simp at h; subst h
              simp only [VRel] at hx
              obtain ⟨rb, base, g1, rfl⟩ := hx
              have b1 := bnd_rel el hlo hlo'
              have b2 := bnd_hi hc eh hhi hhi' hmx'
              have b3 := bnd_rel em hmx hmx'
              have hr := bounds_run (P := P) false n n vlo vhi vmx l hh m w (by rcases b1 with ⟨_, a, b⟩ | a; exact .inl ⟨a, b⟩; exact .inr a) b2 (by rcases b3 with ⟨_, a, b⟩ | a; exact .inl ⟨a, b⟩; exact .inr a) hcnd.1 hcnd.2.1 hcnd.2.2.1
              obtain ⟨rb', base', k1, c, e', lo', hi', k2, k3, k4, _, _⟩ := r.live b blk hb
              rw [g1] at k1
              obtain ⟨rfl, rfl⟩ := (by simpa using k1 : rb = rb' ∧ base = base')
              refine Sim.same r (v := .slice (some (if m = l then ⟨rb, base + off, none⟩ else (⟨rb, base + off, none⟩ : Addr).add (l * z))) (hh - l) (m - l)) ?_ ?_
              · simp [Instr.sliceAt, run_underlying hu, Instr.sureAddr, hr, szOf_run hz]
              · simp only [VRel]
                refine ⟨rb, base, _, m - l, c, e', (lo', hi'), g1, rfl, by omega, Nat.le_refl _, fun _ => rfl, ?_, k2, ?_⟩
                · by_cases hml : m = l
                  · exact .inl (by omega)
                  · right; rw [if_neg hml, Addr.add_lit, Nat.add_assoc]
                · have e1 : base + (off + l * z) + (m - l) * z = base + off + (l + (m - l)) * z := by rw [Nat.add_mul]; omega
                  have e2 : (l + (m - l)) * z ≤ n * z := Nat.mul_le_mul_right _ (by omega)
                  omega
            · simp at h
          · simp at h
        · simp at h
      · rename_i cs off
        split at h
        · rename_i l hh m el eh em
          split at h
          · rename_i hcnd
            simp at h; subst h
            simp only [VRel] at hx
            obtain ⟨a, rfl, g1⟩ := hx
            have b1 := bnd_rel el hlo hlo'
            have b2 := bnd_hi hc eh hhi hhi' hmx'
            have b3 := bnd_rel em hmx hmx'
            have hr := bounds_run (P := P) false n n vlo vhi vmx l hh m w (by rcases b1 with ⟨_, a, b⟩ | a; exact .inl ⟨a, b⟩; exact .inr a) b2 (by rcases b3 with ⟨_, a, b⟩ | a; exact .inl ⟨a, b⟩; exact .inr a) hcnd.1 hcnd.2.1 hcnd.2.2
            refine Sim.same r (v := .slice (some (if m = l then a.add off else (a.add off).add (l * z))) (hh - l) (m - l)) ?_ ?_
            · simp [Instr.sliceAt, run_underlying hu, Instr.sureAddr, hr, szOf_run hz]
            · simp only [VRel]
              refine ⟨_, m - l, rfl, by omega, fun hx => by simp at hx; omega, .inr ?_⟩
              by_cases hml : m = l
              · have : hh - l = 0 := by omega
                exact ⟨_, rfl, by simp only [this, Nat.zero_mul, List.take_zero, CRel]⟩
              · refine ⟨_, rfl, ?_⟩
                rw [if_neg hml, Addr.add_add]
                exact (CRel.drop' _ g1).take _
          · simp at h
        · simp at h
      · simp at h
    · simp at h
  · simp at h

def rep (zs : List SV) (n : Nat) : List SV := (List.range n).map fun i => zs.getD (i % zs.length) .undef
theorem rep_one (s : SV) (n : Nat) : rep [s] n = List.replicate n s := by
  unfold rep
  apply List.ext_getElem <;> simp [Nat.mod_one]

def smake (P : Program) (H : Heap) (t : TypeId) (l c : SV) : Option (SV × Heap) :=
  match elemOfSlice P t with
  | some e => match szOf P e, bytesIn P e, zeroOf P e with
    | some z, some by_, some zs => match natOf l, natOf c with
      | some l, some c => if l ≤ c ∧ by_ * c ≤ 281474976710656 ∧ c ≤ 9223372036854775807 then some (.own H.nb 0 l c z true, H.push ⟨rep zs (c * z), true⟩) else none
      | _, _ => none
    | _, _, _ => none
  | none => none

theorem zeroOf_info {t : TypeId} {zs : List SV} (h : zeroOf P t = some zs) : ∃ i z, P.info? t = some i ∧ i.zero = some z ∧ zs = z.cells.toList.map SV.val := by
  unfold zeroOf at h
  cases hi : P.info? t with
  | none => simp [hi] at h
  | some i =>
    cases hz : i.zero with
    | none => simp [hi, hz] at h
    | some z => simp [hi, hz] at h; exact ⟨i, z, rfl, hz, h.symm⟩

theorem smake_sound {j : JMap} {H H' : Heap} {w : World} {t : TypeId} {l c s : SV} {vl vc : Value} (h : smake P H t l c = some (s, H')) (r : Rel j H w) (hl : VRel (OwnR j H) w j l vl) (hc : VRel (OwnR j H) w j c vc) :
    Sim P (Instr.makeSlice t vl vc) j H w s H' := by
  unfold smake at h
  split at h
  · rename_i e he
    have hu := elemOf_under he
    split at h
    · rename_i z by_ zs hz hby hzs
      split at h
      · rename_i l c el ec
        split at h
        · rename_i hb
          simp at h
          obtain ⟨rfl, rfl⟩ := h
          obtain ⟨kl, rfl⟩ := natOf_rel el hl
          obtain ⟨kc, rfl⟩ := natOf_rel ec hc
          obtain ⟨i, zv, hi, hzv, rfl⟩ := zeroOf_info hzs
          have e1 : i.size = z := by simpa [szOf, hi] using hz
          have e2 : i.bytes = by_ := by simpa [bytesIn, hi] using hby
          have hbytes : (i.bytes : Int) * (c : Int) ≤ 281474976710656 := by
            have : ((i.bytes * c : Nat) : Int) ≤ 281474976710656 := by rw [e2]; omega
            rwa [Int.natCast_mul] at this
          have hrun := run_make (P := P) w t e i zv hu hi hzv kl kc l c (by omega) (by omega) hbytes (by omega)
          simp only [Int.toNat_natCast, e1] at hrun
          have hal := alloc_rel r (madeCells zv.cells (c * z)) e ⟨rep (zv.cells.toList.map SV.val) (c * z), true⟩ (by simp [rep, size_madeCells]) (by simp [rep, size_madeCells]) (fun i s hi => by
            simp only [rep, List.getElem?_map] at hi
            have hlt : i < c * z := by
              rcases Nat.lt_or_ge i (c * z) with h | h
              · exact h
              · simp [h] at hi
            simp [hlt] at hi
            refine ⟨zv.cells[i % zv.cells.size]!, by simp [madeCells, hlt], ?_⟩
            subst hi
            by_cases hm : i % zv.cells.size < zv.cells.size
            · simp [hm, VRel]
            · simp [List.getElem?_eq_none (Nat.le_of_not_lt hm), Array.getElem?_eq_none (Nat.le_of_not_lt hm), VRel])
          refine ⟨_, _, _, hrun, hal.1, ?_, hal.2⟩
          simp only [VRel]
          refine ⟨w.heap.size, 0, _, c, madeCells zv.cells (c * z), e, (0, 0), by simp [JMap.put], rfl, hb.1, Nat.le_refl _, fun _ => rfl, .inr (by simp), heap_alloc_new w _, by simp [size_madeCells]⟩
        · simp at h
      · simp at h
    · simp at h
  · simp at h

def salloc (P : Program) (H : Heap) (t : TypeId) : Option (SV × Heap) :=
  match zeroOf P t with
  | some zs => some (.optr H.nb 0, H.push ⟨zs, true⟩)
  | none => none
theorem salloc_sound {j : JMap} {H H' : Heap} {w : World} {t : TypeId} {s : SV} (h : salloc P H t = some (s, H')) (r : Rel j H w) : Sim P (Instr.alloc t true (.tuple #[])) j H w s H' := by
  unfold salloc at h
  split at h
  · rename_i zs hzs
    simp at h
    obtain ⟨rfl, rfl⟩ := h
    obtain ⟨i, zv, hi, hzv, rfl⟩ := zeroOf_info hzs
    have hal := alloc_rel r zv.cells t ⟨zv.cells.toList.map SV.val, true⟩ (by simp) (by simp) (fun i s hi => by
      simp at hi
      obtain ⟨v, h1, rfl⟩ := hi
      exact ⟨v, h1, by simp only [VRel]⟩)
    refine ⟨.pointer (some ⟨w.heap.size, 0, none⟩), _, _, ?_, hal.1, ?_, hal.2⟩
    · simp [Instr.alloc, zeroValue, typeInfo, hi, hzv, newVar, newRow]
    · simp only [VRel]; exact ⟨w.heap.size, 0, by simp [JMap.put], by simp⟩
  · simp at h

def sbox (H : Heap) (x : SV) : Option (SV × Heap) :=
  match cellsOf x with
  | some cs => some (.optr H.nb 0, H.push ⟨cs, true⟩)
  | none => none
theorem sbox_sound {j : JMap} {H H' : Heap} {w : World} {t : TypeId} {x s : SV} {v : Value} (h : sbox H x = some (s, H')) (r : Rel j H w) (hx : VRel (OwnR j H) w j x v) : Sim P (Instr.box t v) j H w s H' := by
  unfold sbox at h
  split at h
  · rename_i cs hcs
    simp at h
    obtain ⟨rfl, rfl⟩ := h
    have hl := cells_rel hcs hx
    have hlen := hl.length
    have hal := alloc_rel r v.cells t ⟨cs, true⟩ (by simp at hlen; simp [hlen]) (by simp at hlen; simp [hlen]) (fun i s hi => by
      obtain ⟨u, h1, h2⟩ := hl.get hi
      exact ⟨u, by simpa using h1, h2⟩)
    refine ⟨.pointer (some ⟨w.heap.size, 0, none⟩), _, _, ?_, hal.1, ?_, hal.2⟩
    · simp [Instr.box, newVar, newRow]
    · simp only [VRel]; exact ⟨w.heap.size, 0, by simp [JMap.put], by simp⟩
  · simp at h
end Go.Sh

/-
  The operations, further: literals, append, copy.
-/
namespace Go.Sh
open Go Go.RowKit
variable {P : Program}

theorem LRel.set {O : Nat → Prop} {w : World} {j : JMap} {s : SV} {v : Value} (hv : VRel O w j s v) : ∀ {ss : List SV} {vs : List Value} (i : Nat), LRel O w j ss vs → LRel O w j (ss.set i s) (vs.set i v)
  | [], vs, i, h => by simp only [LRel] at h; subst h; simp [LRel]
  | t :: ss, vs, 0, h => by
    simp only [LRel] at h
    obtain ⟨u, rest, rfl, _, h2⟩ := h
    simp only [List.set_cons_zero, LRel]
    exact ⟨v, rest, rfl, hv, h2⟩
  | t :: ss, vs, i + 1, h => by
    simp only [LRel] at h
    obtain ⟨u, rest, rfl, h1, h2⟩ := h
    simp only [List.set_cons_succ, LRel]
    exact ⟨u, rest.set i v, rfl, h1, LRel.set hv i h2⟩

theorem fold_splice {O : Nat → Prop} {w : World} {j : JMap} (off : Nat) : ∀ (cs : List SV) (vs : List Value) (l : List SV) (arr : Array Value) (k : Nat), LRel O w j cs vs → LRel O w j l arr.toList →
    LRel O w j (splice l (off + k) cs) ((vs.zipIdx k).foldl (fun (a : Array Value) (p : Value × Nat) => a.setIfInBounds (off + p.2) p.1) arr).toList
  | [], vs, l, arr, k, h, hl => by simp only [LRel] at h; subst h; simpa [splice] using hl
  | c :: cs, vs, l, arr, k, h, hl => by
    simp only [LRel] at h
    obtain ⟨v, rest, rfl, h1, h2⟩ := h
    have := fold_splice off cs rest (l.set (off + k) c) (arr.setIfInBounds (off + k) v) (k + 1) h2 (by rw [Array.toList_setIfInBounds]; exact LRel.set h1 _ hl)
    simpa [splice, List.zipIdx_cons, Nat.add_assoc] using this

def fieldPl (P : Program) (t : TypeId) (i : Nat) : Option (Nat × Nat) :=
  match P.underlying t with
  | some (.struct fs) => (fs[i]?).bind fun d => (szOf P d.type).map fun z => (d.offset, z)
  | some (.array _ e) => (szOf P e).map fun z => (i * z, z)
  | _ => none
def buildOk (P : Program) (t : TypeId) : Bool :=
  match P.underlying t with
  | some (.struct fs) => fs.toList.all fun d => (szOf P d.type).isSome
  | some (.array _ e) => (szOf P e).isSome
  | _ => false

def sfill (place : Nat → Option (Nat × Nat)) (ρ : Operand → SV) (cells : List SV) : List (Nat × Operand) → Option (List SV)
  | [] => some cells
  | (i, x) :: rest => match place i, cellsOf (ρ x) with
    | some (off, size), some cs => if cs.length = size ∧ off + cs.length ≤ cells.length then sfill place ρ (splice cells off cs) rest else none
    | _, _ => none

theorem sfill_sound {O : Nat → Prop} {w : World} {j : JMap} {place : Nat → Option (Nat × Nat)} {ρ : Operand → SV} {ρr : Operand → Value} : ∀ (parts : List (Nat × Operand)) (cells : List SV) (arr : Array Value) (out : List SV),
    (∀ p ∈ parts, VRel O w j (ρ p.2) (ρr p.2)) → sfill place ρ cells parts = some out → LRel O w j cells arr.toList →
    ∃ a, Instr.fill place arr (parts.map fun p => (p.1, ρr p.2)) = some a ∧ LRel O w j out a.toList
  | [], cells, arr, out, _, h, hl => by simp [sfill] at h; subst h; exact ⟨arr, rfl, hl⟩
  | (i, x) :: rest, cells, arr, out, hp, h, hl => by
    simp only [sfill] at h
    split at h
    · rename_i off size cs hpl hc
      split at h
      · rename_i hcond
        have hx := hp (i, x) (by simp)
        have hcr := cells_rel hc hx
        have hlen : (ρr x).cells.size = cs.length := by simpa using hcr.length
        have hal : arr.size = cells.length := by simpa using hl.length
        have hf := fold_splice off cs (ρr x).cells.toList cells arr 0 hcr hl
        obtain ⟨a, h1, h2⟩ := sfill_sound rest _ _ out (fun p hpm => hp p (by simp [hpm])) h hf
        refine ⟨a, ?_, h2⟩
        have e1 : ¬ ((ρr x).cells.size ≠ size || decide (off + (ρr x).cells.size > arr.size)) = true := by
          simp only [ne_eq, Bool.or_eq_true, decide_eq_true_eq, not_or]
          exact ⟨by rw [hlen, hcond.1]; simp, by rw [hlen, hal]; omega⟩
        simp only [List.map_cons, Instr.fill, hpl]
        rw [if_neg (by simpa using e1)]
        rw [← h1]
        congr 1
        rw [← Array.foldl_toList, Array.toList_zipIdx]
      · simp at h
    · simp at h

def sbuild (P : Program) (t : TypeId) (ρ : Operand → SV) (parts : List (Nat × Operand)) : Option SV :=
  match zeroOf P t with
  | some zs => if buildOk P t = true then (match sfill (fieldPl P t) ρ zs parts with | some cs => some (.agg cs) | none => none) else none
  | none => none

theorem mapM_places (w : World) : ∀ (fs : List Field), (fs.all fun d => (szOf P d.type).isSome) = true →
    (fs.mapM (m := Sem) fun f => do pure (f.offset, ← sizeOf f.type)).run P w = .ok (fs.map fun d => (d.offset, (szOf P d.type).getD 0)) w
  | [], _ => by simp
  | f :: fs, h => by
    simp only [List.all_cons, Bool.and_eq_true] at h
    obtain ⟨z, hz⟩ := Option.isSome_iff_exists.1 h.1
    have ih := mapM_places w fs h.2
    simp only [List.mapM_cons, Sem.run_bind, szOf_run hz, Result.andThen_ok, Sem.run_pure, ih, List.map_cons, hz, Option.getD_some]

theorem sbuild_sound {j : JMap} {H : Heap} {w : World} {t : TypeId} {ρ : Operand → SV} {ρr : Operand → Value} {parts : Array (Nat × Operand)} {s : SV} (h : sbuild P t ρ parts.toList = some s) (r : Rel j H w)
    (hp : ∀ p ∈ parts.toList, VRel (OwnR j H) w j (ρ p.2) (ρr p.2)) : Sim P (Instr.build t (parts.map fun p => (p.1, ρr p.2))) j H w s H := by
  unfold sbuild at h
  split at h
  · rename_i zs hzs
    split at h
    · rename_i hok
      split at h
      · rename_i cs hcs
        simp at h; subst h
        obtain ⟨i, zv, hi, hzv, rfl⟩ := zeroOf_info hzs
        obtain ⟨a, h1, h2⟩ := sfill_sound (O := OwnR j H) (w := w) (j := j) (ρr := ρr) parts.toList _ zv.cells cs hp hcs (LRel.map_val _)
        refine Sim.same r (v := .agg a) ?_ (by simp only [VRel]; exact ⟨a.toList, by simp, h2⟩)
        have hzr : (zeroValue t).run P w = .ok zv w := by simp [zeroValue, typeInfo, hi, hzv]
        have hpl : (parts.map fun p => (p.1, ρr p.2)).toList = parts.toList.map fun p => (p.1, ρr p.2) := by simp
        unfold buildOk at hok
        split at hok
        · rename_i fs hu
          have hm := mapM_places (P := P) w fs.toList hok
          have hfun : (fun i => ((fs.toList.map fun d => (d.offset, (szOf P d.type).getD 0)).toArray)[i]?) = fieldPl P t := by
            funext i
            unfold fieldPl
            rw [hu]
            simp only [List.getElem?_toArray, List.getElem?_map, Array.getElem?_toList]
            cases hd : fs[i]? with
            | none => simp
            | some d =>
              simp only [Option.map_some, Option.bind_some]
              have hmem : d ∈ fs.toList := by
                rw [← Array.getElem?_toList] at hd
                exact List.mem_of_getElem? hd
              have := List.all_eq_true.1 hok d hmem
              obtain ⟨z, hz⟩ := Option.isSome_iff_exists.1 this
              simp [hz]
          simp only [Instr.build, Sem.run_bind, hzr, Result.andThen_ok, run_underlying hu]
          rw [Array.mapM_eq_mapM_toList]
          simp only [Sem.run_map, hm, Result.andThen_ok, hpl]
          rw [hfun, h1]
          simp
        · rename_i n e hu
          obtain ⟨z, hz⟩ := Option.isSome_iff_exists.1 hok
          have hfun : (fun i => some (i * z, z)) = fieldPl P t := by
            funext i
            unfold fieldPl
            rw [hu]
            simp [hz]
          simp only [Instr.build, Sem.run_bind, hzr, Result.andThen_ok, run_underlying hu, szOf_run hz, hpl]
          rw [hfun, h1]
          simp
        · simp at hok
      · simp at h
    · simp at h
  · simp at h

def sbuildSlice (P : Program) (H : Heap) (t : TypeId) (len : Nat) (ρ : Operand → SV) (parts : List (Nat × Operand)) : Option (SV × Heap) :=
  match elemOfSlice P t with
  | some e => match szOf P e, zeroOf P e with
    | some z, some zs => if len * z ≤ 16777216 then (match sfill (fun i => some (i * z, z)) ρ (rep zs (len * z)) parts with | some cs => some (.own H.nb 0 len len z false, H.push ⟨cs, false⟩) | none => none) else none
    | _, _ => none
  | none => none

theorem sfill_length {place : Nat → Option (Nat × Nat)} {ρ : Operand → SV} : ∀ (parts : List (Nat × Operand)) (cells out : List SV), sfill place ρ cells parts = some out → out.length = cells.length
  | [], cells, out, h => by simp [sfill] at h; rw [h]
  | (i, x) :: rest, cells, out, h => by
    simp only [sfill] at h
    split at h
    · split at h
      · rw [sfill_length rest _ out h, splice_length]
      · simp at h
    · simp at h

theorem sbuildSlice_sound {j : JMap} {H H' : Heap} {w : World} {t : TypeId} {len : Nat} {ρ : Operand → SV} {ρr : Operand → Value} {parts : Array (Nat × Operand)} {s : SV} (h : sbuildSlice P H t len ρ parts.toList = some (s, H')) (r : Rel j H w)
    (hp : ∀ p ∈ parts.toList, VRel (OwnR j H) w j (ρ p.2) (ρr p.2)) : Sim P (Instr.buildSlice t len (parts.map fun p => (p.1, ρr p.2))) j H w s H' := by
  unfold sbuildSlice at h
  split at h
  · rename_i e he
    have hu := elemOf_under he
    split at h
    · rename_i z zs hz hzs
      split at h
      · rename_i hle
        split at h
        · rename_i cs hcs
          simp at h
          obtain ⟨rfl, rfl⟩ := h
          obtain ⟨i, zv, hi, hzv, rfl⟩ := zeroOf_info hzs
          have hzr : (zeroValue e).run P w = .ok zv w := by simp [zeroValue, typeInfo, hi, hzv]
          have hinit : LRel (OwnR j H) w j (rep (zv.cells.toList.map SV.val) (len * z)) (madeCells zv.cells (len * z)).toList := by
            refine LRel.mk (by simp [rep, size_madeCells]) (fun i s v hs hv => ?_)
            simp only [rep, List.getElem?_map] at hs
            have hlt : i < len * z := by
              rcases Nat.lt_or_ge i (len * z) with h | h
              · exact h
              · simp [h] at hs
            simp [hlt] at hs
            have hv' : v = zv.cells[i % zv.cells.size]! := by
              have : (madeCells zv.cells (len * z))[i]? = some v := by simpa using hv
              simpa [madeCells, hlt] using this.symm
            subst hv'
            subst hs
            by_cases hm : i % zv.cells.size < zv.cells.size
            · simp [hm, VRel]
            · simp [List.getElem?_eq_none (Nat.le_of_not_lt hm), Array.getElem?_eq_none (Nat.le_of_not_lt hm), VRel]
          obtain ⟨a, h1, h2⟩ := sfill_sound (O := OwnR j H) (w := w) (j := j) (ρr := ρr) parts.toList _ (madeCells zv.cells (len * z)) cs hp hcs hinit
          have hlen := sfill_length _ _ _ hcs
          have hal : a.size = len * z := by
            have := h2.length
            simp [hlen, rep] at this
            exact this
          have hal' := alloc_rel r a e ⟨cs, false⟩ (by simp [hlen, rep, hal]) (by simp) (fun i s hi => by
            obtain ⟨u, g1, g2⟩ := h2.get hi
            exact ⟨u, by simpa using g1, g2⟩)
          have hpl : (parts.map fun p => (p.1, ρr p.2)).toList = parts.toList.map fun p => (p.1, ρr p.2) := by simp
          refine ⟨.slice (some ⟨w.heap.size, 0, none⟩) len len, _, _, ?_, hal'.1, ?_, hal'.2⟩
          · by_cases h0 : len * z = 0
            · have hm0 : madeCells zv.cells (len * z) = #[] := by rw [h0]; simp [madeCells, Array.range_zero']
              rw [hm0] at h1
              simp [Instr.buildSlice, run_underlying hu, szOf_run hz, h0, h1, newRow, Array.range_zero']
            · have n1 : ¬ (16777216 < len * z) := by omega
              simp only [madeCells] at h1
              simp [Instr.buildSlice, run_underlying hu, szOf_run hz, h0, n1, hzr, h1, newRow]
          · simp only [VRel]
            exact ⟨w.heap.size, 0, _, len, a, e, (0, 0), by simp [JMap.put], rfl, Nat.le_refl _, Nat.le_refl _, fun _ => rfl, .inr (by simp), heap_alloc_new w _, by omega⟩
        · simp at h
      · simp at h
    · simp at h
  · simp at h

def sview (H : Heap) (z : Nat) : SV → Option (Nat × List SV)
  | .val (.slice none 0 0) => some (0, [])
  | .row n _ cs => if cs.length = n * z then some (n, cs) else none
  | .own b off n _ _ _ => match H.map b with
    | some blk => if off + n * z ≤ blk.cells.length then some (n, (blk.cells.drop off).take (n * z)) else none
    | none => none
  | _ => none

theorem sview_len {H : Heap} {z n : Nat} {x : SV} {cs : List SV} (h : sview H z x = some (n, cs)) : cs.length = n * z := by
  unfold sview at h
  split at h
  · simp at h; obtain ⟨rfl, rfl⟩ := h; simp
  · split at h
    · simp at h; obtain ⟨rfl, rfl⟩ := h; assumption
    · simp at h
  · split at h
    · split at h
      · simp at h; obtain ⟨rfl, rfl⟩ := h; simp; omega
      · simp at h
    · simp at h
  · simp at h

theorem sview_mem {j : JMap} {H : Heap} {w : World} {z n : Nat} {x : SV} {cs : List SV} {v : Value} (h : sview H z x = some (n, cs)) (r : Rel j H w) (hx : VRel (OwnR j H) w j x v) :
    ∃ base cap vs, v = .slice base n cap ∧ n ≤ cap ∧ LRel (OwnR j H) w j cs vs ∧ ((base = none ∧ n = 0 ∧ cap = 0) ∨ ∃ a, base = some a ∧ ∀ i u, vs[i]? = some u → w.cell? (a.add i) = some u) := by
  unfold sview at h
  split at h
  · simp at h; obtain ⟨rfl, rfl⟩ := h
    simp only [VRel] at hx; subst hx
    exact ⟨none, 0, [], rfl, Nat.le_refl _, by simp only [LRel], .inl ⟨rfl, rfl, rfl⟩⟩
  · rename_i n' ex cs'
    split at h
    · rename_i hl
      simp at h; obtain ⟨rfl, rfl⟩ := h
      simp only [VRel] at hx
      obtain ⟨a0, cap, rfl, g1, g2, g3⟩ := hx
      rcases g3 with ⟨rfl, rfl, rfl, rfl⟩ | ⟨a, rfl, g3⟩
      · exact ⟨none, 0, [], rfl, Nat.le_refl _, by simp only [LRel], .inl ⟨rfl, rfl, rfl⟩⟩
      cases cs' with
      | nil => exact ⟨some a, cap, [], rfl, g1, by simp only [LRel], .inr ⟨a, rfl, fun i u hi => by simp at hi⟩⟩
      | cons c cs' =>
        have hs : a.spot = none := by simp only [CRel] at g3; exact g3.1
        obtain ⟨ab, ao, sp⟩ := a
        simp at hs; subst hs
        obtain ⟨vs, k1, k2, k3⟩ := mem_list (O := OwnR j H) (w := w) (j := j) (c :: cs') ab ao (fun i s hi => by
          obtain ⟨u, _, _, q3, q4⟩ := g3.get hi
          exact ⟨u, q3, q4.of_noj⟩)
        exact ⟨_, cap, vs, rfl, g1, k3, .inr ⟨_, rfl, fun i u hi => by rw [Addr.add_lit]; exact k2 i u hi⟩⟩
    · simp at h
  · rename_i b off n' cap sz ex
    split at h
    · rename_i blk hb
      split at h
      · rename_i hl
        simp at h; obtain ⟨rfl, rfl⟩ := h
        simp only [VRel] at hx
        obtain ⟨rb, base, a, cap', c, e, fr, g1, rfl, g3, g4, g5, g6, g7, g8⟩ := hx
        by_cases hn : cap' = 0
        · have : n' = 0 := by omega
          subst this
          exact ⟨some a, cap', [], rfl, by omega, by simp only [Nat.zero_mul, List.take_zero, LRel], .inr ⟨a, rfl, fun i u hi => by simp at hi⟩⟩
        · have ha : a = ⟨rb, base + off, none⟩ := g6.resolve_left hn
          subst ha
          obtain ⟨vs, k1, k2, k3⟩ := mem_list (O := OwnR j H) (w := w) (j := j) ((blk.cells.drop off).take (n' * z)) rb (base + off) (fun i s hi => by
            rw [List.getElem?_take] at hi
            split at hi
            · obtain ⟨u, q1, q2⟩ := own_cells r hb g1 (i := off + i) (by simpa [List.getElem?_drop] using hi)
              exact ⟨u, by simpa [Nat.add_assoc] using q1, q2⟩
            · simp at hi)
          exact ⟨_, cap', vs, rfl, by omega, k3, .inr ⟨_, rfl, fun i u hi => by rw [Addr.add_lit]; exact k2 i u hi⟩⟩
      · simp at h
    · simp at h
  · simp at h

theorem rename_rel {j : JMap} {H : Heap} {w : World} (r : Rel j H w) {b : Nat} {blk : Blk} (hb : H.map b = some blk) {rb base : Nat} (hj : j b = some (rb, base)) (base2 : Nat) (cs2 : List SV)
    (hc : ∀ c e fr, w.heap[rb]? = some (.cells c e fr) → base2 + cs2.length ≤ c.size ∧ ∀ i s, cs2[i]? = some s → ∃ v, c[base2 + i]? = some v ∧ VRel (OwnR j H) w j s v) :
    Rel (j.put H.nb (rb, base2)) ((H.set b none).push ⟨cs2, false⟩) w ∧ Nx j H w (j.put H.nb (rb, base2)) ((H.set b none).push ⟨cs2, false⟩) w := by
  have hjn : j H.nb = none := by
    cases hj' : j H.nb with
    | none => rfl
    | some p => exact absurd (r.dom _ _ hj') (Nat.lt_irrefl _)
  have hbn : b < H.nb := r.dom _ _ hj
  have hown : OwnR j H rb := ⟨b, blk, base, hb, hj⟩
  have hsub : ∀ k, OwnR (j.put H.nb (rb, base2)) ((H.set b none).push ⟨cs2, false⟩) k → OwnR j H k := by
    rintro k ⟨b', bk, bs, h1, h2⟩
    simp only [Heap.push, Heap.set] at h1
    unfold JMap.put at h2
    by_cases h : b' = H.nb
    · subst h; simp at h2; rw [← h2.1]; exact hown
    · simp [h] at h1 h2
      exact ⟨b', bk, bs, h1.2, h2⟩
  have nx : Nx j H w (j.put H.nb (rb, base2)) ((H.set b none).push ⟨cs2, false⟩) w :=
    ⟨rfl, rfl, rfl, Nat.le_refl _, fun _ _ _ => rfl, fun _ c e fr h => ⟨c, e, fr, h, rfl⟩, fun b' hb' => by unfold JMap.put; rw [if_neg (by omega)], by simp [Heap.push, Heap.set], fun k h => .inl (hsub k h)⟩
  have hj' := nx.jmono r
  refine ⟨⟨r.tab.tr nx.tr, ?_, ?_, ?_⟩, nx⟩
  · intro b' p hp
    unfold JMap.put at hp
    by_cases h : b' = H.nb
    · subst h; simp [Heap.push, Heap.set]
    · simp [h] at hp; have := r.dom _ _ hp; simp [Heap.push, Heap.set]; omega
  · intro b' bk hbk
    simp only [Heap.push, Heap.set] at hbk
    by_cases h : b' = H.nb
    · subst h
      simp at hbk; subst hbk
      obtain ⟨rb', base', k1, c, e, lo, hi, k2, k3, k4, k5, k6⟩ := r.live b blk hb
      rw [hj] at k1
      obtain ⟨rfl, rfl⟩ := (by simpa using k1 : rb = rb' ∧ base = base')
      obtain ⟨q1, q2⟩ := hc c e (lo, hi) k2
      refine ⟨rb, base2, by simp [JMap.put], c, e, lo, hi, k2, k3, q1, by simp, fun i s hi => ?_⟩
      obtain ⟨v, p1, p2⟩ := q2 i s hi
      exact ⟨v, p1, p2.nx r nx⟩
    · simp [h] at hbk
      obtain ⟨rb', base', k1, k2⟩ := r.live b' bk hbk.2
      exact ⟨rb', base', hj' _ _ k1, k2.tr nx.tr hj' rfl⟩
  · intro b1 b2 k1 k2 rb1 ba1 ba2 h1 h2 h3 h4
    simp only [Heap.push, Heap.set] at h1 h2
    unfold JMap.put at h3 h4
    by_cases g1 : b1 = H.nb <;> by_cases g2 : b2 = H.nb
    · omega
    · subst g1
      simp at h3
      simp [g2] at h2 h4
      obtain ⟨rfl, rfl⟩ := h3
      exact absurd (r.inj _ _ _ _ _ _ _ h2.2 hb h4 hj) h2.1
    · subst g2
      simp at h4
      simp [g1] at h1 h3
      obtain ⟨rfl, rfl⟩ := h4
      exact absurd (r.inj _ _ _ _ _ _ _ h1.2 hb h3 hj) h1.1
    · simp [g1, g2] at h1 h2 h3 h4
      exact r.inj _ _ _ _ _ _ _ h1.2 h2.2 h3 h4

def isStr (P : Program) (t : TypeId) : Bool := match P.underlying t with | some .string => true | _ => false
theorem isStr_under {t : TypeId} (h : isStr P t = true) : P.underlying t = some .string := by
  unfold isStr at h
  split at h
  · assumption
  · simp at h
def ssrc (P : Program) (H : Heap) (z : Nat) (tx : TypeId) (x : SV) : Option (Nat × List SV) :=
  match elemOfSlice P tx with
  | some _ => sview H z x
  | none => if isStr P tx = true then (match x with
    | .val (.string s) => if z = 1 then some (s.size, (byteCells s).map .val) else none
    | _ => none) else none

def sappend (P : Program) (H : Heap) (argTypes : List TypeId) (s x : SV) : Option (SV × Heap) :=
  match argTypes with
  | t :: tx :: [] => match elemOfSlice P t with
    | some e => match szOf P e, bytesIn P e, zeroOf P e with
      | some z, some by_, some zs => match sview H z s, ssrc P H z tx x with
        | some (n, old), some (m, new) =>
          if new.all flat = true ∧ zs.length = z then
            if m = 0 then some (s, H)
            else if (n + m) * by_ ≤ 140737488355328 ∧ n + m ≤ 9223372036854775807 then
              match s with
              | .val _ => some (.own H.nb 0 (n + m) (n + m) z false, H.push ⟨old ++ new, false⟩)
              | .row _ true _ => some (.own H.nb 0 (n + m) (n + m) z false, H.push ⟨old ++ new, false⟩)
              | .own b off n cap sz ex =>
                if sz = z then
                  if n + m ≤ cap then match H.map b with
                    | some blk => if off + (n + m) * z ≤ blk.cells.length then some (.own b off (n + m) cap z ex, H.set b (some ⟨splice blk.cells (off + n * z) new, blk.ex⟩)) else none
                    | none => none
                  else if ex = true then some (.own H.nb 0 (n + m) (n + m) z false, H.push ⟨old ++ new, false⟩)
                  else some (.own H.nb 0 (n + m) (n + m) z false, (H.set b none).push ⟨old ++ new, false⟩)
                else none
              | _ => none
            else none
          else none
        | _, _ => none
      | _, _, _ => none
    | none => none
  | _ => none

theorem ssrc_src {j : JMap} {H : Heap} {w : World} {z m : Nat} {tx : TypeId} {x : SV} {cs : List SV} {v : Value} (h : ssrc P H z tx x = some (m, cs)) (r : Rel j H w) (hx : VRel (OwnR j H) w j x v) (hf : cs.all flat = true) :
    ∃ news, Src P z tx v m news w ∧ LRel (OwnR j H) w j cs news := by
  unfold ssrc at h
  split at h
  · rename_i e' he
    have hu := elemOf_under he
    have hl := sview_len h
    obtain ⟨base, cap, vs, rfl, g1, g2, g3⟩ := sview_mem h r hx
    have hlen : vs.length = m * z := by rw [g2.length, hl]
    rcases g3 with ⟨rfl, rfl, rfl⟩ | ⟨a, rfl, g3⟩
    · have : vs = [] := by simpa using hlen
      subst this
      exact ⟨[], Src.ofNil w hu 0, g2⟩
    · exact ⟨vs, Src.ofSlice w hu a m cap vs hlen g3 (LRel.ones hf g2), g2⟩
  · split at h
    · rename_i hs
      have hu := isStr_under hs
      split at h
      · rename_i s
        split at h
        · rename_i hz
          subst hz
          simp at h; obtain ⟨rfl, rfl⟩ := h
          simp only [VRel] at hx; subst hx
          exact ⟨byteCells s, Src.ofString w hu s, LRel.map_val _⟩
        · simp at h
      · simp at h
    · simp at h

theorem grow_sim {j : JMap} {H : Heap} {w : World} (r : Rel j H w) {e : TypeId} {olds news : List Value} {cs : List SV} (rest : Array Value) (n z cap : Nat) (hl : LRel (OwnR j H) w j cs (olds ++ news)) (hn : cs.length = n * z)
    (hcap : n ≤ cap) (hrest : cap * z ≤ ((olds ++ news).toArray ++ rest).size) {m : Sem Value}
    (hrun : m.run P w = .ok (.slice (some ⟨w.heap.size, 0, none⟩) n cap) (w.drew.alloc (.cells ((olds ++ news).toArray ++ rest) e))) :
    Sim P m j H w (.own H.nb 0 n n z false) (H.push ⟨cs, false⟩) := by
  have rd := r.drew
  have hl' : LRel (OwnR j H) w.drew j cs (olds ++ news) := hl.nx r (Nx.drew j H w)
  have hlen := hl.length
  have hal := alloc_rel rd ((olds ++ news).toArray ++ rest) e ⟨cs, false⟩ (by simp at hlen ⊢; omega) (by simp) (fun i s hi => by
    obtain ⟨u, g1, g2⟩ := hl'.get hi
    refine ⟨u, ?_, g2⟩
    have hlt : i < (olds ++ news).length := by
      rcases Nat.lt_or_ge i (olds ++ news).length with h | h
      · exact h
      · rw [List.getElem?_eq_none h] at g1; simp at g1
    rw [Array.getElem?_append_left (by simpa using hlt)]
    simpa using g1)
  refine ⟨_, _, _, hrun, hal.1, ?_, (Nx.drew j H w).trans hal.2⟩
  simp only [VRel]
  exact ⟨w.heap.size, 0, _, cap, _, e, (0, 0), by simp [JMap.put], rfl, Nat.le_refl _, hcap, by simp, .inr (by simp), heap_alloc_new w.drew _, by simpa using hrest⟩

theorem splice_over : ∀ (new pre mid post : List SV), mid.length = new.length → splice (pre ++ mid ++ post) pre.length new = pre ++ new ++ post
  | [], pre, mid, post, h => by
    have : mid = [] := by simpa using h
    subst this; simp [splice]
  | c :: new, pre, [], post, h => by simp at h
  | c :: new, pre, m :: mid, post, h => by
    have := splice_over new (pre ++ [c]) mid post (by simpa using h)
    simp only [splice]
    rw [show (pre ++ (m :: mid) ++ post).set pre.length c = (pre ++ [c]) ++ mid ++ post by simp]
    simpa using this

theorem sappend_sound {j : JMap} {H H' : Heap} {w : World} {ats : List TypeId} {ty : TypeId} {s x s' : SV} {vs vx : Value} (h : sappend P H ats s x = some (s', H')) (r : Rel j H w) (hs : VRel (OwnR j H) w j s vs) (hx : VRel (OwnR j H) w j x vx) :
    Sim P (Builtin.append_ ats.toArray ty #[vs, vx]) j H w s' H' := by
  unfold sappend at h
  split at h
  · rename_i t tx
    split at h
    · rename_i e he
      have hu := elemOf_under he
      split at h
      · rename_i z by_ zs hz hby hzs
        obtain ⟨i, zv, hi, hzv, hzs'⟩ := zeroOf_info hzs
        have e1 : i.size = z := by simpa [szOf, hi] using hz
        have e2 : i.bytes = by_ := by simpa [bytesIn, hi] using hby
        subst e1 e2
        split at h
        · rename_i n old m new hvs hsrc
          split at h
          · rename_i hfl
            obtain ⟨hflat, hzl⟩ := hfl
            have hzc : zv.cells.size = i.size := by rw [← hzl, hzs']; simp
            obtain ⟨base, cap, olds, rfl, g1, g2, g3⟩ := sview_mem hvs r hs
            obtain ⟨news, k1, k2⟩ := ssrc_src hsrc r hx hflat
            have hold : old.length = n * i.size := sview_len hvs
            have holds : olds.length = n * i.size := by rw [g2.length, hold]
            have hnew : new.length = m * i.size := by rw [← k2.length, k1.newsLen]
            have holdrun : (Builtin.firstCells i.size n (.slice base n cap)).run P w.drew = .ok olds.toArray w.drew := by
              rcases g3 with ⟨rfl, rfl, rfl⟩ | ⟨a, rfl, g3⟩
              · have : olds = [] := by simpa using holds
                subst this
                exact run_firstCells_none w.drew _ _ _ _
              · exact run_firstCells_some w.drew i.size n a n cap olds holds (by simpa using g3)
            split at h
            · rename_i hm
              subst hm
              simp at h; obtain ⟨rfl, rfl⟩ := h
              have : news = [] := by
                have := k1.newsLen
                simpa using this
              subst this
              exact Sim.same r (run_append_nothing w t tx ty e i hu hi base n cap g1 vx k1) hs
            · rename_i hm
              split at h
              · rename_i hfit
                have grow : cap < n + m → Sim P (Builtin.append_ #[t, tx] ty #[.slice base n cap, vx]) j H w (.own H.nb 0 (n + m) (n + m) i.size false) (H.push ⟨old ++ new, false⟩) := by
                  intro hlt
                  have hrun := run_append_grow_src w t tx ty e i zv hu hi hzv base n cap olds holdrun vx m news k1 hlt (by omega) (growslice_fits hlt hfit.1)
                  have hgc : n + m ≤ grownCap w (n + m) cap e := by unfold grownCap Question.cut; simp
                  refine grow_sim r _ (n + m) i.size (grownCap w (n + m) cap e) (g2.append k2) (by simp [hold, hnew, Nat.add_mul]) hgc ?_ hrun
                  have e3 : grownCap w (n + m) cap e * i.size = (n + m) * i.size + (grownCap w (n + m) cap e - (n + m)) * i.size := by
                    rw [← Nat.add_mul]; congr 1; omega
                  simp [Builtin.zeroCells, holds, k1.newsLen, hzc]
                  rw [e3, Nat.add_mul]
                  omega
                split at h
                · -- nil
                  rename_i v hv
                  simp at h; obtain ⟨rfl, rfl⟩ := h
                  refine grow ?_
                  simp only [VRel] at hs
                  subst hs
                  unfold sview at hvs
                  split at hvs
                  · rename_i heq; simp at heq; obtain ⟨rfl, rfl, rfl⟩ := heq; simp at hvs; omega
                  · simp at *
                  · simp at *
                  · simp at hvs
                · -- a row whose room is known
                  rename_i n' cs'
                  simp at h; obtain ⟨rfl, rfl⟩ := h
                  refine grow ?_
                  simp only [VRel] at hs
                  obtain ⟨a', cap', e4, q1, q2, _⟩ := hs
                  simp at e4
                  obtain ⟨_, rfl, rfl⟩ := e4
                  have := q2 trivial
                  omega
                · rename_i b off n' cap0 sz ex
                  have hs0 := hs
                  simp only [VRel] at hs
                  obtain ⟨rb, bs, a, cap', c, e', fr, q1, e4, q3, q4, q5, q6, q7, q8⟩ := hs
                  simp at e4
                  obtain ⟨rfl, rfl, rfl⟩ := e4
                  split at h
                  · rename_i hsz
                    subst hsz
                    split at h
                    · -- within the known room
                      rename_i hroom
                      split at h
                      · rename_i blk hb
                        split at h
                        · rename_i hin
                          simp at h; obtain ⟨rfl, rfl⟩ := h
                          have hc0 : cap ≠ 0 := by omega
                          have ha : a = ⟨rb, bs + off, none⟩ := q6.resolve_left hc0
                          subst ha
                          have hof : off + n * i.size + new.length ≤ blk.cells.length := by rw [hnew]; rw [Nat.add_mul] at hin; omega
                          obtain ⟨p1, p2, p3, p4⟩ := setCells_rel new news r hb q1 (off + n * i.size) hof k2
                          have hrun := run_append_room_src w t tx ty e i hu hi rb (bs + off) n cap vx m news k1 (by omega) (by simpa [Nat.add_assoc] using p1) (by simpa [Nat.add_assoc] using p2)
                          have ee : bs + off + n * i.size = bs + (off + n * i.size) := by omega
                          rw [ee] at hrun
                          refine ⟨_, _, j, hrun, p3, ?_, p4⟩
                          have := hs0.nx r p4
                          simp only [VRel] at this ⊢
                          obtain ⟨rb', bs', a', cap'', c', e'', fr', u1, u2, u3, u4, u5, u6, u7, u8⟩ := this
                          rw [q1] at u1
                          obtain ⟨rfl, rfl⟩ := (by simpa using u1 : rb = rb' ∧ bs = bs')
                          simp at u2
                          obtain ⟨rfl, rfl⟩ := u2
                          exact ⟨rb, bs, _, cap, c', e'', fr', q1, rfl, hroom, u4, u5, .inr rfl, u7, u8⟩
                        · simp at h
                      · simp at h
                    · rename_i hroom
                      split at h
                      · -- the room is known, and too small
                        rename_i hex
                        simp at h; obtain ⟨rfl, rfl⟩ := h
                        exact grow (by have := q5 hex; omega)
                      · -- the room is not known: the elder name is let go
                        simp at h; obtain ⟨rfl, rfl⟩ := h
                        unfold sview at hvs
                        simp only at hvs
                        split at hvs
                        · rename_i blk hb
                          split at hvs
                          · rename_i hle
                            simp at hvs
                            by_cases hcap : n + m ≤ cap
                            · -- it fits after all
                              have hc0 : cap ≠ 0 := by omega
                              have ha : a = ⟨rb, bs + off, none⟩ := q6.resolve_left hc0
                              subst ha
                              have hbound : bs + off + (n + m) * i.size ≤ c.size := by
                                have : (n + m) * i.size ≤ cap * i.size := Nat.mul_le_mul_right _ hcap
                                omega
                              obtain ⟨r2, nx2⟩ := rename_rel r hb q1 (bs + off) (old ++ List.replicate (m * i.size) .undef) (fun c1 e1 fr1 hc1 => by
                                rw [q7] at hc1
                                obtain ⟨rfl, _, _⟩ := (by simpa using hc1 : c = c1 ∧ e' = e1 ∧ fr = fr1)
                                refine ⟨by simp [hold, ← Nat.add_mul]; omega, fun i' s hi' => ?_⟩
                                rw [List.getElem?_append] at hi'
                                split at hi'
                                · rename_i hlt
                                  have hi2 : blk.cells[off + i']? = some s := by
                                    rw [← hvs] at hi'
                                    rw [List.getElem?_take] at hi'
                                    split at hi'
                                    · simpa [List.getElem?_drop] using hi'
                                    · simp at hi'
                                  obtain ⟨u, u1, u2⟩ := own_cells r hb q1 hi2
                                  refine ⟨u, ?_, u2⟩
                                  simpa [World.cell?, q7, Nat.add_assoc] using u1
                                · rename_i hge
                                  simp [List.getElem?_replicate] at hi'
                                  obtain ⟨hlt, rfl⟩ := hi'
                                  have : bs + off + i' < c.size := by rw [Nat.add_mul] at hbound; omega
                                  exact ⟨c[bs + off + i'], by simp [this], by simp only [VRel]⟩)
                              have hmap : ((H.set b none).push ⟨old ++ List.replicate (m * i.size) .undef, false⟩).map H.nb = some ⟨old ++ List.replicate (m * i.size) .undef, false⟩ := by simp [Heap.push, Heap.set]
                              have hk2 := k2.nx r nx2
                              obtain ⟨p1, p2, p3, p4⟩ := setCells_rel new news r2 hmap (rb := rb) (base := bs + off) (by simp [JMap.put]) (n * i.size) (by simp [hold, hnew]) hk2
                              have hrun := run_append_room_src w t tx ty e i hu hi rb (bs + off) n cap vx m news k1 hcap p1 p2
                              have hsp : splice (old ++ List.replicate (m * i.size) SV.undef) (n * i.size) new = old ++ new := by
                                have := splice_over new old (List.replicate (m * i.size) SV.undef) [] (by simp [hnew])
                                simpa [hold] using this
                              have hheap : ((H.set b none).push ⟨old ++ List.replicate (m * i.size) .undef, false⟩).set H.nb (some ⟨splice (old ++ List.replicate (m * i.size) SV.undef) (n * i.size) new, false⟩) = (H.set b none).push ⟨old ++ new, false⟩ := by
                                rw [hsp]
                                simp only [Heap.push, Heap.set, Heap.mk.injEq, and_true]
                                funext k
                                by_cases hk : k = H.nb <;> simp [hk]
                              rw [hheap] at p3 p4
                              refine ⟨_, _, _, hrun, p3, ?_, nx2.trans p4⟩
                              obtain ⟨c', e'', fr', v1, v2⟩ := (nx2.trans p4).sizes rb c e' fr q7
                              simp only [VRel]
                              exact ⟨rb, bs + off, _, cap, c', e'', fr', by simp [JMap.put], rfl, Nat.le_refl _, hcap, by simp, .inr (by simp), v1, by omega⟩
                            · -- it does not
                              obtain ⟨v, w', j', f1, f2, f3, f4⟩ := grow (by omega)
                              obtain ⟨f5, f6⟩ := kill_rel f2 b
                              have hbn : b ≠ H.nb := by
                                have := r.dom _ _ q1
                                omega
                              have hheap : (H.push ⟨old ++ new, false⟩).set b none = (H.set b none).push ⟨old ++ new, false⟩ := by
                                simp only [Heap.push, Heap.set, Heap.mk.injEq, and_true]
                                funext k
                                by_cases hk : k = b
                                · subst hk; simp [hbn]
                                · simp [hk]
                              rw [hheap] at f5 f6
                              exact ⟨v, w', j', f1, f5, f3.nx f2 f6, f4.trans f6⟩
                          · simp at hvs
                        · simp at hvs
                  · simp at h
                · simp at h
              · simp at h
          · simp at h
        · simp at h
      · simp at h
    · simp at h
  · simp at h

theorem LRel.take {O : Nat → Prop} {w : World} {j : JMap} : ∀ {ss : List SV} {vs : List Value} (n : Nat), LRel O w j ss vs → LRel O w j (ss.take n) (vs.take n)
  | ss, vs, 0, _ => by simp [LRel]
  | [], vs, n + 1, h => by simp only [LRel] at h; subst h; simp [LRel]
  | s :: ss, vs, n + 1, h => by
    simp only [LRel] at h
    obtain ⟨v, rest, rfl, h1, h2⟩ := h
    simp only [List.take_succ_cons, LRel]
    exact ⟨v, rest.take n, rfl, h1, LRel.take n h2⟩
end Go.Sh

/-
  The operations, further: arithmetic, comparisons, len, cap, min, max, copy; and all operations under one name.
-/
namespace Go.Sh
open Go Go.RowKit
variable {P : Program}

def vb (b : Bool) : SV := .val (.bool b)
def vi (n : Int) : SV := .val (.int .i64 n)

def kand (k : IntKind) (a b : Int) : Int := k.wrap ((BitVec.ofInt k.bits a &&& BitVec.ofInt k.bits b).toNat : Nat)
def kor (k : IntKind) (a b : Int) : Int := k.wrap ((BitVec.ofInt k.bits a ||| BitVec.ofInt k.bits b).toNat : Nat)
def kxor (k : IntKind) (a b : Int) : Int := k.wrap ((BitVec.ofInt k.bits a ^^^ BitVec.ofInt k.bits b).toNat : Nat)
def kandNot (k : IntKind) (a b : Int) : Int := k.wrap ((BitVec.ofInt k.bits a &&& ~~~ (BitVec.ofInt k.bits b)).toNat : Nat)
def kshl (k : IntKind) (a b : Int) : Int := k.wrap (a * 2 ^ (min b.toNat k.bits))
def kshr (k : IntKind) (a b : Int) : Int := a.fdiv (2 ^ (min b.toNat k.bits))
def sint (op : BinOp) (k : IntKind) (a b : Int) : Option SV :=
  match op with
  | .add => some (.val (.int k (k.wrap (a + b))))
  | .sub => some (.val (.int k (k.wrap (a - b))))
  | .mul => some (.val (.int k (k.wrap (a * b))))
  | .quo => if b = 0 then none else some (.val (.int k (k.wrap (a.tdiv b))))
  | .rem => if b = 0 then none else some (.val (.int k (a.tmod b)))
  | .and => some (.val (.int k (kand k a b)))
  | .or => some (.val (.int k (kor k a b)))
  | .xor => some (.val (.int k (kxor k a b)))
  | .andNot => some (.val (.int k (kandNot k a b)))
  | .eql => some (.val (.bool (a == b)))
  | .neq => some (.val (.bool (a != b)))
  | .lss => some (.val (.bool (decide (a < b))))
  | .leq => some (.val (.bool (decide (a ≤ b))))
  | .gtr => some (.val (.bool (decide (a > b))))
  | .geq => some (.val (.bool (decide (a ≥ b))))
  | _ => none
def sshift (op : BinOp) (k : IntKind) (a b : Int) : Option SV :=
  match op with
  | .shl => if 0 ≤ b then some (.val (.int k (kshl k a b))) else none
  | .shr => if 0 ≤ b then some (.val (.int k (kshr k a b))) else none
  | _ => none
def sstr (op : BinOp) (a b : ByteArray) : Option SV :=
  match op with
  | .add => if a.size + b.size ≤ 9223372036854775807 then some (.val (.string (a ++ b))) else none
  | .eql => some (.val (.bool (a.toList == b.toList)))
  | .neq => some (.val (.bool (!(a.toList == b.toList))))
  | .lss => some (.val (.bool (Op.bytesLess a.toList b.toList)))
  | .leq => some (.val (.bool (Op.bytesLess a.toList b.toList || a.toList == b.toList)))
  | .gtr => some (.val (.bool (!(Op.bytesLess a.toList b.toList || a.toList == b.toList))))
  | .geq => some (.val (.bool (!(Op.bytesLess a.toList b.toList))))
  | _ => none
def isBool (P : Program) (t : TypeId) : Bool := match P.underlying t with | some .bool => true | _ => false
theorem isBool_under {t : TypeId} (h : isBool P t = true) : P.underlying t = some .bool := by
  unfold isBool at h
  split at h
  · assumption
  · simp at h
def isNilS : SV → Option Bool
  | .val (.slice none 0 0) => some true
  | .row n _ _ => if n = 0 then none else some false
  | .own _ _ _ _ _ _ => some false
  | _ => none
def seqb (op : BinOp) (b : Bool) : Option SV :=
  match op with
  | .eql => some (.val (.bool b))
  | .neq => some (.val (.bool (!b)))
  | _ => none
def kindOf (P : Program) (t : TypeId) : Option IntKind := match P.underlying t with | some (.int k) => some k | _ => none
theorem kindOf_under {t : TypeId} {k : IntKind} (h : kindOf P t = some k) : P.underlying t = some (.int k) := by
  unfold kindOf at h
  split at h
  · simp at h; subst h; assumption
  · simp at h
def eqFlds (P : Program) : Nat → List Field → Bool
  | _, [] => true
  | i, f :: fs => decide (f.name ≠ "_") && decide (f.offset = i) && (kindOf P f.type).isSome && eqFlds P (i + 1) fs
def intRec (P : Program) (t : TypeId) (n : Nat) : Bool :=
  (match P.underlying t with | some (.struct fs) => decide (fs.toList.length = n) && eqFlds P 0 fs.toList | _ => false) && !P.stoodInHeld t && !P.eqGuardType P.depth t
def eqCs : List SV → List SV → Option Bool
  | [], [] => some true
  | .val (.int k a) :: xs, .val (.int k' b) :: ys => if k = k' then (match eqCs xs ys with | some r => some (a == b && r) | none => none) else none
  | _, _ => none
@[go_sem] theorem eqCs_nil : eqCs [] [] = some true := rfl
@[go_sem] theorem eqCs_int (k : IntKind) (a b : Int) (xs ys : List SV) : eqCs (.val (.int k a) :: xs) (.val (.int k b) :: ys) = (match eqCs xs ys with | some r => some (a == b && r) | none => none) := by
  rw [eqCs, if_pos rfl]
def sbin (P : Program) (op : BinOp) (t : TypeId) (x y : SV) : Option SV :=
  match x, y with
  | .val (.int k a), .val (.int k' b) =>
    match op with
    | .shl => sshift .shl k a b
    | .shr => sshift .shr k a b
    | op => if k = k' then sint op k a b else none
  | .val (.bool a), .val (.bool b) => if isBool P t = true then seqb op (a == b) else none
  | .val (.string a), .val (.string b) => sstr op a b
  | x, .val (.slice none 0 0) => match elemOfSlice P t, isNilS x with
    | some _, some b => seqb op b
    | _, _ => none
  | .agg xs, .agg ys => if intRec P t xs.length = true then (match eqCs xs ys with | some b => seqb op b | none => none) else none
  | _, _ => none

theorem isNilS_rel {O : Nat → Prop} {w : World} {j : JMap} {s : SV} {b : Bool} {v : Value} (h : isNilS s = some b) (hv : VRel O w j s v) : ∃ a n c, v = .slice a n c ∧ a.isNone = b := by
  unfold isNilS at h
  split at h
  · simp only [VRel] at hv; subst hv; simp at h; exact ⟨none, 0, 0, rfl, by simp [h]⟩
  · simp only [VRel] at hv
    obtain ⟨a, cap, rfl, _, _, hc⟩ := hv
    split at h
    · simp at h
    · rename_i hn
      obtain ⟨b, rfl, _⟩ := hc.resolve_left (fun e => hn e.2.1)
      simp at h; exact ⟨some b, _, _, rfl, by simp [h]⟩
  · simp only [VRel] at hv; obtain ⟨rb, base, a, cap', c, e, fr, _, rfl, _⟩ := hv; simp at h; exact ⟨some a, _, _, rfl, by simp [h]⟩
  · simp at h

theorem run_equal_bool {t : TypeId} (hu : P.underlying t = some .bool) (a b : Bool) (w : World) : (Op.equal t (.bool a) (.bool b)).run P w = .ok (a == b) w := by
  have key : ∀ d, (Op.equalIn (d + 1) t (.bool a) (.bool b)).run P w = .ok (a == b) w := fun d => by simp only [Op.equalIn, Sem.run_bind, run_underlying hu, Result.andThen_ok, Sem.run_pure]
  exact key 9999
theorem run_equal_nil {t e : TypeId} (hu : P.underlying t = some (.slice e)) (a : Option Addr) (n c : Nat) (w : World) : (Op.equal t (.slice a n c) (.slice none 0 0)).run P w = .ok a.isNone w := by
  have key : ∀ d, (Op.equalIn (d + 1) t (.slice a n c) (.slice none 0 0)).run P w = .ok a.isNone w := fun d => by
    cases a <;> simp only [Op.equalIn, Sem.run_bind, run_underlying hu, Result.andThen_ok, Sem.run_pure, Option.isNone]
  exact key 9999
theorem eq_run_bool {x y : Operand} {t : TypeId} (hu : P.underlying t = some .bool) (a b : Bool) (w : World) :
    (do eqGuard .eql t x y (.bool a) (.bool b); binOp .eql t (.bool a) (.bool b) : Sem Value).run P w = .ok (.bool (a == b)) w := by
  have e : binOp .eql t (.bool a) (.bool b) = (do pure (.bool (← Op.equal t (.bool a) (.bool b)))) := rfl
  rw [e, eqGuard_at_bool]
  simp only [pure_bind, Sem.run_bind, run_equal_bool hu, Result.andThen_ok, Sem.run_pure]
theorem ne_run_bool {x y : Operand} {t : TypeId} (hu : P.underlying t = some .bool) (a b : Bool) (w : World) :
    (do eqGuard .neq t x y (.bool a) (.bool b); binOp .neq t (.bool a) (.bool b) : Sem Value).run P w = .ok (.bool (!(a == b))) w := by
  have e : binOp .neq t (.bool a) (.bool b) = (do pure (.bool (!(← Op.equal t (.bool a) (.bool b))))) := rfl
  rw [e, eqGuard_at_bool]
  simp only [pure_bind, Sem.run_bind, run_equal_bool hu, Result.andThen_ok, Sem.run_pure]
theorem eq_run_nil {x y : Operand} {t e : TypeId} (hu : P.underlying t = some (.slice e)) (a : Option Addr) (n c : Nat) (w : World) :
    (do eqGuard .eql t x y (.slice a n c) (.slice none 0 0); binOp .eql t (.slice a n c) (.slice none 0 0) : Sem Value).run P w = .ok (.bool a.isNone) w := by
  have e : binOp .eql t (.slice a n c) (.slice none 0 0) = (do pure (.bool (← Op.equal t (.slice a n c) (.slice none 0 0)))) := rfl
  rw [e, eqGuard_at_slice]
  simp only [pure_bind, Sem.run_bind, run_equal_nil hu, Result.andThen_ok, Sem.run_pure]
theorem ne_run_nil {x y : Operand} {t e : TypeId} (hu : P.underlying t = some (.slice e)) (a : Option Addr) (n c : Nat) (w : World) :
    (do eqGuard .neq t x y (.slice a n c) (.slice none 0 0); binOp .neq t (.slice a n c) (.slice none 0 0) : Sem Value).run P w = .ok (.bool (!a.isNone)) w := by
  have e : binOp .neq t (.slice a n c) (.slice none 0 0) = (do pure (.bool (!(← Op.equal t (.slice a n c) (.slice none 0 0))))) := rfl
  rw [e, eqGuard_at_slice]
  simp only [pure_bind, Sem.run_bind, run_equal_nil hu, Result.andThen_ok, Sem.run_pure]

theorem bits_and {t : TypeId} {x y : Operand} (k : IntKind) (a b : Int) (w : World) : (do eqGuard .and t x y (.int k a) (.int k b); binOp .and t (.int k a) (.int k b) : Sem Value).run P w = .ok (.int k (kand k a b)) w := by
  rw [eqGuard_at_int]
  simp only [pure_bind, binOp_and]
  rfl
theorem bits_or {t : TypeId} {x y : Operand} (k : IntKind) (a b : Int) (w : World) : (do eqGuard .or t x y (.int k a) (.int k b); binOp .or t (.int k a) (.int k b) : Sem Value).run P w = .ok (.int k (kor k a b)) w := by
  rw [eqGuard_at_int]
  simp only [pure_bind, binOp_or]
  rfl
theorem bits_xor {t : TypeId} {x y : Operand} (k : IntKind) (a b : Int) (w : World) : (do eqGuard .xor t x y (.int k a) (.int k b); binOp .xor t (.int k a) (.int k b) : Sem Value).run P w = .ok (.int k (kxor k a b)) w := by
  rw [eqGuard_at_int]
  simp only [pure_bind, binOp_xor]
  rfl
theorem bits_andNot {t : TypeId} {x y : Operand} (k : IntKind) (a b : Int) (w : World) : (do eqGuard .andNot t x y (.int k a) (.int k b); binOp .andNot t (.int k a) (.int k b) : Sem Value).run P w = .ok (.int k (kandNot k a b)) w := by
  rw [eqGuard_at_int]
  simp only [pure_bind, binOp_andNot]
  rfl

theorem eqFields_run {O : Nat → Prop} {w : World} {j : JMap} (d : Nat) (xs ys : Array Value) : ∀ (fs : List Field) (i : Nat) (sx sy : List SV) (r : Bool), eqFlds P i fs = true → eqCs sx sy = some r → fs.length = sx.length →
    LRel O w j sx (xs.toList.drop i) → LRel O w j sy (ys.toList.drop i) → (Op.eqFields (d + 1) xs ys fs).run P w = .ok r w
  | [], i, sx, sy, r, hf, he, hl, hx, hy => by
    cases sx with
    | cons a b => simp at hl
    | nil =>
      cases sy with
      | cons a b => simp [eqCs] at he
      | nil => simp only [eqCs, Option.some.injEq] at he; subst he; simp [Op.eqFields]
  | f :: fs, i, sx, sy, r, hf, he, hl, hx, hy => by
    unfold eqCs at he
    split at he
    · simp at hl
    · rename_i k a sx k' b sy
      split at he
      · rename_i hk
        subst hk
        split at he
        · rename_i q hq
          simp only [Option.some.injEq] at he
          subst he
          simp only [eqFlds, Bool.and_eq_true, decide_eq_true_eq] at hf
          obtain ⟨⟨⟨hn, ho⟩, hi⟩, hf⟩ := hf
          simp only [LRel, VRel] at hx hy
          obtain ⟨v, rest, h1, rfl, hx⟩ := hx
          obtain ⟨v, rest', h2, rfl, hy⟩ := hy
          have e1 : xs[i]? = some (.int k a) := by
            have := congrArg (fun l => l[0]?) h1
            simpa using this
          have e2 : ys[i]? = some (.int k b) := by
            have := congrArg (fun l => l[0]?) h2
            simpa using this
          have d1 : xs.toList.drop (i + 1) = rest := by
            have := congrArg (List.drop 1) h1
            simpa [List.drop_drop] using this
          have d2 : ys.toList.drop (i + 1) = rest' := by
            have := congrArg (List.drop 1) h2
            simpa [List.drop_drop] using this
          rw [← d1] at hx
          rw [← d2] at hy
          have ih := eqFields_run d xs ys fs (i + 1) sx sy q hf hq (by simpa using hl) hx hy
          obtain ⟨kk, hkk⟩ := Option.isSome_iff_exists.1 hi
          have hu := kindOf_under hkk
          have p1 : (part f.type xs f.offset).run P w = .ok (.int k a) w := by
            rw [ho]; simp [part, isAgg, run_underlying hu, isAggD, e1]
          have p2 : (part f.type ys f.offset).run P w = .ok (.int k b) w := by
            rw [ho]; simp [part, isAgg, run_underlying hu, isAggD, e2]
          simp only [Op.eqFields, if_pos hn, Sem.run_bind, p1, p2, Result.andThen_ok, run_equalIn_int w d f.type k kk a b hu]
          by_cases hab : a = b
          · have : (a == b) = true := by simp [hab]
            simp only [this, Bool.not_true, Bool.false_eq_true, if_false, ih, Bool.true_and]
          · have : (a == b) = false := by simp [hab]
            simp only [this, Bool.not_false, if_true, Sem.run_pure, Bool.false_and]
        · simp at he
      · simp at he
    · simp at he
theorem intRec_run {O : Nat → Prop} {w : World} {j : JMap} {t : TypeId} {sx sy : List SV} {vx vy : List Value} {r : Bool} (h : intRec P t sx.length = true) (he : eqCs sx sy = some r) (hx : LRel O w j sx vx) (hy : LRel O w j sy vy) :
    (Op.equalIn 10000 t (.agg vx.toArray) (.agg vy.toArray)).run P w = .ok r w ∧ P.eqGuardType P.depth t = false := by
  unfold intRec at h
  simp only [Bool.and_eq_true, Bool.not_eq_true'] at h
  obtain ⟨⟨h1, h2⟩, h3⟩ := h
  split at h1
  · rename_i fs hu
    simp only [Bool.and_eq_true, decide_eq_true_eq] at h1
    have hfs : P.fieldsOf t = fs := by simp [Program.fieldsOf, hu]
    have := run_equalIn_struct w 9999 t vx.toArray vy.toArray (by rw [hfs]; exact hu) h2
    refine ⟨?_, h3⟩
    rw [show (10000 : Nat) = 9999 + 1 from rfl, this, hfs]
    exact eqFields_run 9998 vx.toArray vy.toArray fs.toList 0 sx sy r h1.2 he h1.1 (by simpa using hx) (by simpa using hy)
  · simp at h1
theorem sbin_sound {O : Nat → Prop} {w : World} {j : JMap} {op : BinOp} {t : TypeId} {x y : Operand} {sx sy s : SV} {vx vy : Value} (h : sbin P op t sx sy = some s) (hx : VRel O w j sx vx) (hy : VRel O w j sy vy) :
    ∃ v, (do eqGuard op t x y vx vy; binOp op t vx vy : Sem Value).run P w = .ok v w ∧ VRel O w j s v := by
  unfold sbin at h
  split at h
  · rename_i k a k' b
    simp only [VRel] at hx hy
    subst hx hy
    split at h
    · simp only [sshift] at h
      split at h
      · rename_i h0
        simp at h; subst h
        have n0 : ¬ b < 0 := by omega
        exact ⟨.int k (k.wrap (a * 2 ^ (min b.toNat k.bits))), by simp [eqGuard_at_int, binOp, Op.shift, n0], by simp only [VRel, kshl]⟩
      · simp at h
    · simp only [sshift] at h
      split at h
      · rename_i h0
        simp at h; subst h
        have n0 : ¬ b < 0 := by omega
        exact ⟨.int k (a.fdiv (2 ^ (min b.toNat k.bits))), by simp [eqGuard_at_int, binOp, Op.shift, n0], by simp only [VRel, kshr]⟩
      · simp at h
    · rename_i n1 n2
      split at h
      · rename_i hk
        subst hk
        cases op <;> simp only [sint] at h <;>
          first
            | (exact absurd rfl n1)
            | (exact absurd rfl n2)
            | (simp at h; done)
            | (simp at h; subst h; exact ⟨_, bits_and k a b w, by simp only [VRel]⟩)
            | (simp at h; subst h; exact ⟨_, bits_or k a b w, by simp only [VRel]⟩)
            | (simp at h; subst h; exact ⟨_, bits_xor k a b w, by simp only [VRel]⟩)
            | (simp at h; subst h; exact ⟨_, bits_andNot k a b w, by simp only [VRel]⟩)
            | (simp at h; subst h; exact ⟨_, by simp [eqGuard_at_int, binOp, Op.intArith, Op.intCmp]; rfl, by simp only [VRel]⟩)
            | (split at h
               · simp at h
               · rename_i hb; simp at h; subst h; exact ⟨_, by simp [eqGuard_at_int, binOp, Op.intDiv, hb]; rfl, by simp only [VRel]⟩)
      · simp at h
  · rename_i a b
    simp only [VRel] at hx hy
    subst hx hy
    split at h
    · rename_i hb
      have hu := isBool_under hb
      cases op <;> simp only [seqb] at h <;>
        first
          | (simp at h; done)
          | (simp at h; subst h; exact ⟨_, eq_run_bool hu a b w, by simp only [VRel]; first | done | simp⟩)
          | (simp at h; subst h; exact ⟨_, ne_run_bool hu a b w, by simp only [VRel]; first | done | simp⟩)
    · simp at h
  · rename_i a b
    simp only [VRel] at hx hy
    subst hx hy
    cases op <;> simp only [sstr] at h <;>
      first
        | (simp at h; done)
        | (simp at h; subst h; exact ⟨_, by simp [eqGuard_at_string, binOp, Op.stringOp]; rfl, by simp only [VRel]⟩)
        | (split at h
           · rename_i hb
             simp at h; subst h
             have n1 : ¬ (9223372036854775807 < ((a.size : Int) + (b.size : Int))) := by omega
             exact ⟨_, by simp [eqGuard_at_string, binOp, Op.stringOp, n1]; rfl, by simp only [VRel]⟩
           · simp at h)
  · simp only [VRel] at hy
    subst hy
    split at h
    · rename_i e b he hb
      have hu := elemOf_under he
      obtain ⟨a, n, c, rfl, rfl⟩ := isNilS_rel hb hx
      cases op <;> simp only [seqb] at h <;>
        first
          | (simp at h; done)
          | (simp at h; subst h; exact ⟨_, eq_run_nil hu a n c w, by simp only [VRel]; first | done | simp⟩)
          | (simp at h; subst h; exact ⟨_, ne_run_nil hu a n c w, by simp only [VRel]; first | done | simp⟩)
    · simp at h
  · rename_i xs ys _
    simp only [VRel] at hx hy
    obtain ⟨vx, rfl, hx⟩ := hx
    obtain ⟨vy, rfl, hy⟩ := hy
    split at h
    · rename_i hr
      split at h
      · rename_i b hb
        obtain ⟨e1, e2⟩ := intRec_run hr hb hx hy
        cases op <;> simp only [seqb] at h <;>
          first
            | (simp at h; done)
            | (simp at h; subst h; exact ⟨.bool b, by rw [Sem.run_bind, run_eqGuard_agg w _ t _ _ _ _ e2, Result.andThen_ok, run_eql_struct, e1, Result.andThen_ok], by simp only [VRel]⟩)
            | (simp at h; subst h; exact ⟨.bool (!b), by rw [Sem.run_bind, run_eqGuard_agg w _ t _ _ _ _ e2, Result.andThen_ok, run_neq_struct, e1, Result.andThen_ok], by simp only [VRel]⟩)
      · simp at h
    · simp at h
  · simp at h

def sun (op : UnOp) (x : SV) : Option SV :=
  match op, x with
  | .neg, .val (.int k n) => some (.val (.int k (k.wrap (0 - n))))
  | .not, .val (.bool b) => some (.val (.bool (!b)))
  | _, _ => none
theorem sun_sound {O : Nat → Prop} {w : World} {j : JMap} {op : UnOp} {sx s : SV} {vx : Value} (h : sun op sx = some s) (hx : VRel O w j sx vx) : ∃ v, (Op.unary op vx).run P w = .ok v w ∧ VRel O w j s v := by
  unfold sun at h
  split at h
  · simp only [VRel] at hx; subst hx; simp at h; subst h
    exact ⟨_, by simp [Op.unary, Op.intArith]; rfl, by simp only [VRel]; first | done | simp⟩
  · simp only [VRel] at hx; subst hx; simp at h; subst h
    exact ⟨_, by simp [Op.unary]; rfl, by simp only [VRel]⟩
  · simp at h

def sconv (P : Program) (src dst : TypeId) (x : SV) : Option SV :=
  match P.underlying src with
  | none => none
  | some _ => match x with
    | .val (.int _ n) => match kindOf P dst with
      | some k => some (.val (.int k (k.wrap n)))
      | none => none
    | .val (.string s) => if isStr P dst = true then some (.val (.string s)) else none
    | _ => none
theorem sconv_sound {O : Nat → Prop} {w : World} {j : JMap} {src dst : TypeId} {sx s : SV} {vx : Value} (h : sconv P src dst sx = some s) (hx : VRel O w j sx vx) : ∃ v, (convert src dst vx).run P w = .ok v w ∧ VRel O w j s v := by
  unfold sconv at h
  split at h
  · simp at h
  · rename_i d hd
    split at h
    · simp only [VRel] at hx; subst hx
      split at h
      · rename_i k hk
        simp at h; subst h
        exact ⟨_, by simp [convert, run_underlying hd, run_underlying (kindOf_under hk), Conv.intToInt]; rfl, by simp only [VRel]⟩
      · simp at h
    · simp only [VRel] at hx; subst hx
      split at h
      · rename_i hs
        simp at h; subst h
        exact ⟨_, by simp [convert, run_underlying hd, run_underlying (isStr_under hs)]; rfl, by simp only [VRel]⟩
      · simp at h
    · simp at h

def sb (l : List UInt8) : ByteArray := ⟨l.toArray⟩
def u8s : List SV → Option (List UInt8)
  | [] => some []
  | s :: cs => match s with
    | .val (.int .u8 n) => (match u8s cs with | some l => some (UInt8.ofNat n.toNat :: l) | none => none)
    | _ => none
theorem u8s_nums : ∀ {cs : List SV} {l : List UInt8}, u8s cs = some l → ∃ ns : List Int, cs = ns.map (fun n => .val (.int .u8 n)) ∧ l = ns.map fun n => UInt8.ofNat n.toNat
  | [], l, h => by simp [u8s] at h; subst h; exact ⟨[], rfl, rfl⟩
  | s :: cs, l, h => by
    simp only [u8s] at h
    split at h
    · rename_i n
      split at h
      · rename_i l' hl
        simp at h; subst h
        obtain ⟨ns, rfl, rfl⟩ := u8s_nums hl
        exact ⟨n :: ns, rfl, rfl⟩
      · simp at h
    · simp at h
theorem u8s_vals {O : Nat → Prop} {w : World} {j : JMap} : ∀ {ns : List Int} {vs : List Value}, LRel O w j (ns.map fun n => SV.val (.int .u8 n)) vs → vs = ns.map (Value.int .u8)
  | [], vs, h => by simpa only [List.map_nil, LRel] using h
  | n :: ns, vs, h => by
    simp only [List.map_cons, LRel, VRel] at h
    obtain ⟨v, rest, rfl, rfl, h3⟩ := h
    rw [u8s_vals h3]; rfl
def sconvH (P : Program) (H : Heap) (src dst : TypeId) (x : SV) : Option SV :=
  match elemOfSlice P src with
  | some e => if isStr P dst = true ∧ kindOf P e = some .u8 then (match sview H 1 x with | some (_, cs) => (match u8s cs with | some l => some (.val (.string (sb l))) | none => none) | none => none) else none
  | none => sconv P src dst x
theorem sconvH_sound {j : JMap} {H : Heap} {w : World} {src dst : TypeId} {sx s : SV} {vx : Value} (h : sconvH P H src dst sx = some s) (r : Rel j H w) (hx : VRel (OwnR j H) w j sx vx) : ∃ v, (convert src dst vx).run P w = .ok v w ∧ VRel (OwnR j H) w j s v := by
  unfold sconvH at h
  split at h
  · rename_i e he
    have hs : P.underlying src = some (.slice e) := by
      unfold elemOfSlice at he
      split at he
      · rename_i e' h'
        simp at he; subst he; exact h'
      · simp at he
    split at h
    · rename_i hc
      have hd := isStr_under hc.1
      have hk := kindOf_under hc.2
      split at h
      · rename_i n cs hv
        split at h
        · rename_i l hl
          simp at h; subst h
          obtain ⟨base, cap, vs, rfl, _, hvs, hm⟩ := sview_mem hv r hx
          have hlen := sview_len hv
          obtain ⟨ns, rfl, rfl⟩ := u8s_nums hl
          have e2 := u8s_vals hvs
          rcases hm with ⟨rfl, rfl, rfl⟩ | ⟨a, rfl, hm⟩
          · have : ns = [] := by simpa using hlen
            subst this
            exact ⟨_, run_convert_bytes_nil w src e hs hk 0 0 dst hd, by simp only [VRel]; rfl⟩
          · refine ⟨.string (sb (ns.map fun n => UInt8.ofNat n.toNat)), ?_, by simp only [VRel]⟩
            have hl2 : (loadCells a n).run P w = .ok (ns.map (Value.int .u8)).toArray w := by
              have := run_loadCells_list (P := P) w a (ns.map (Value.int .u8)) (fun j v hj => hm j v (by rw [e2]; exact hj))
              simpa [show ns.length = n by simpa using hlen] using this
            rw [run_convert_bytes_string w src dst e _ n cap hs hk hd, run_bytesToString w _ n cap ns hl2, foldl_push_bytes]
            simp [sb, ByteArray.empty, ByteArray.emptyWithCapacity]
            try rfl
        · simp at h
      · simp at h
    · simp at h
  · exact sconv_sound h hx

def u8c (l : List UInt8) : List SV := l.map fun c => .val (.int .u8 (c.toNat : Int))
theorem u8s_u8c : ∀ l : List UInt8, u8s (u8c l) = some l
  | [] => rfl
  | c :: l => by
    have ih := u8s_u8c l
    simp only [u8c] at ih ⊢
    simp only [List.map_cons, u8s, ih, Int.toNat_natCast, UInt8.ofNat_toNat]
theorem u8s_nil : u8s [] = some [] := rfl
theorem u8s_cons (n : Int) (cs : List SV) : u8s (.val (.int .u8 n) :: cs) = match u8s cs with | some l => some (UInt8.ofNat n.toNat :: l) | none => none := rfl
def BYT : Nat := 51
def sbytes (P : Program) (H : Heap) (dst : TypeId) (x : SV) : Option (SV × Heap) :=
  match elemOfSlice P dst, x with
  | some e, .val (.string s) => if kindOf P e = some .u8 then some (.own H.nb 0 s.size s.size 1 false, H.push ⟨u8c s.data.toList, false⟩) else none
  | _, _ => none
def sconvA (P : Program) (H : Heap) (src dst : TypeId) (x : SV) : Option (SV × Heap) :=
  if dst = BYT ∧ isStr P src = true then sbytes P H dst x else match sconvH P H src dst x with | some s => some (s, H) | none => none
theorem sbytes_sound {j : JMap} {H H' : Heap} {w : World} {src dst : TypeId} {sx s : SV} {vx : Value} (h : sbytes P H dst sx = some (s, H')) (hs : isStr P src = true) (r : Rel j H w) (hx : VRel (OwnR j H) w j sx vx) :
    Sim P (convert src dst vx) j H w s H' := by
  unfold sbytes at h
  split at h
  · rename_i e b he
    split at h
    · rename_i hk
      simp only [Option.some.injEq, Prod.mk.injEq] at h
      obtain ⟨rfl, rfl⟩ := h
      simp only [VRel] at hx
      subst hx
      have hd : P.underlying dst = some (.slice e) := elemOf_under he
      have hrun := run_bytes_of_string (P := P) w src dst e b (isStr_under hs) hd (kindOf_under hk)
      have hcap := grownCap_ge w b.size 0 e
      generalize grownCap w b.size 0 e = cap at *
      have rd := r.drew
      have hbl : b.data.toList.length = b.size := Array.length_toList
      have hsz : (bytesRow b cap).size = cap := by
        have : b.data.size = b.size := rfl
        simp only [bytesRow, Array.size_append, Array.size_map, Array.size_replicate]; omega
      have hal := alloc_relF rd (bytesRow b cap) e (lo := (bytesRow b cap).size) (hi := (bytesRow b cap).size + 1) (.inr (Nat.le_refl _)) ⟨u8c b.data.toList, false⟩ (by simp only [u8c, List.length_map, hsz, hbl]; exact hcap) (by simp) (fun i s hi => by
        simp only [u8c, List.getElem?_map, Option.map_eq_some_iff] at hi
        obtain ⟨c, hc, rfl⟩ := hi
        have hlt : i < b.size := by rw [← hbl]; exact (List.getElem?_eq_some_iff.1 hc).1
        refine ⟨.int .u8 (c.toNat : Int), ?_, by simp only [VRel]⟩
        have hlt2 : i < b.data.size := hlt
        have hbd : b.data[i]? = some c := by
          rw [← hc, ← Array.getElem?_toList]
        simp only [bytesRow]
        rw [Array.getElem?_append_left (by simpa using hlt2), Array.getElem?_map, hbd]
        rfl)
      refine ⟨_, _, _, hrun, hal.1, ?_, (Nx.drew j H w).trans hal.2⟩
      simp only [VRel]
      exact ⟨w.heap.size, 0, _, cap, bytesRow b cap, e, ((bytesRow b cap).size, (bytesRow b cap).size + 1), by simp [JMap.put], rfl, Nat.le_refl _, hcap, by simp, .inr (by simp), heap_alloc_new w.drew _, by omega⟩
    · simp at h
  · simp at h

def slen (P : Program) (t : TypeId) (x : SV) : Option SV :=
  match elemOfSlice P t with
  | some _ => match x with
    | .val (.slice none 0 0) => some (.val (.int .i64 0))
    | .row n _ _ => some (.val (.int .i64 n))
    | .own _ _ n _ _ _ => some (.val (.int .i64 n))
    | _ => none
  | none => match arrayOf P t with
    | some (n, _) => some (.val (.int .i64 n))
    | none => if isStr P t = true then (match x with
      | .val (.string s) => some (.val (.int .i64 s.size))
      | _ => none) else none
theorem slen_sound {O : Nat → Prop} {w : World} {j : JMap} {t : TypeId} {ty : TypeId} {sx s : SV} {vx : Value} (h : slen P t sx = some s) (hx : VRel O w j sx vx) : ∃ v, (Builtin.len_ #[t] ty #[vx]).run P w = .ok v w ∧ VRel O w j s v := by
  unfold slen at h
  split at h
  · rename_i e he
    have hu := elemOf_under he
    split at h
    · simp only [VRel] at hx; subst hx; simp at h; subst h
      exact ⟨_, by simp [Builtin.len_, run_underlying hu]; rfl, by simp only [VRel]; rfl⟩
    · simp only [VRel] at hx; obtain ⟨a, cap, rfl, _⟩ := hx; simp at h; subst h
      exact ⟨_, by simp [Builtin.len_, run_underlying hu]; rfl, by simp only [VRel]; rfl⟩
    · simp only [VRel] at hx; obtain ⟨rb, base, a, cap', c, e, fr, _, rfl, _⟩ := hx; simp at h; subst h
      exact ⟨_, by simp [Builtin.len_, run_underlying hu]; rfl, by simp only [VRel]; rfl⟩
    · simp at h
  · split at h
    · rename_i n e he
      have hu := arrayOf_under he
      simp at h; subst h
      exact ⟨_, by simp [Builtin.len_, run_underlying hu]; rfl, by simp only [VRel]; rfl⟩
    · split at h
      · rename_i hs
        have hu := isStr_under hs
        split at h
        · simp only [VRel] at hx; subst hx; simp at h; subst h
          exact ⟨_, by simp [Builtin.len_, run_underlying hu]; rfl, by simp only [VRel]; rfl⟩
        · simp at h
      · simp at h

def smax2 : SV → SV → Option SV
  | .val (.int k x), .val (.int _ y) => some (.val (.int k (if y > x then y else x)))
  | _, _ => none
def smin2 : SV → SV → Option SV
  | .val (.int k x), .val (.int _ y) => some (.val (.int k (if y < x then y else x)))
  | _, _ => none
def sfold (f : SV → SV → Option SV) : SV → List SV → Option SV
  | a, [] => some a
  | a, x :: xs => match f a x with
    | some b => sfold f b xs
    | none => none
def sfold1 (f : SV → SV → Option SV) : List SV → Option SV
  | [] => none
  | x :: xs => sfold f x xs

theorem sfold_sound {O : Nat → Prop} {w : World} {j : JMap} {f : SV → SV → Option SV} {g : Value → Value → Sem Value} (hfg : ∀ a b s va vb, f a b = some s → VRel O w j a va → VRel O w j b vb → ∃ v, (g va vb).run P w = .ok v w ∧ VRel O w j s v) :
    ∀ (xs : List SV) (vs : List Value) (a : SV) (va : Value) (s : SV), LRel O w j xs vs → VRel O w j a va → sfold f a xs = some s → ∃ v, (vs.foldlM g va).run P w = .ok v w ∧ VRel O w j s v
  | [], vs, a, va, s, hl, ha, h => by
    simp only [LRel] at hl; subst hl
    simp [sfold] at h; subst h
    exact ⟨va, by simp, ha⟩
  | x :: xs, vs, a, va, s, hl, ha, h => by
    simp only [LRel] at hl
    obtain ⟨u, rest, rfl, h1, h2⟩ := hl
    simp only [sfold] at h
    split at h
    · rename_i b hb
      obtain ⟨v, g1, g2⟩ := hfg a x b va u hb ha h1
      obtain ⟨v', k1, k2⟩ := sfold_sound hfg xs rest b v s h2 g2 h
      exact ⟨v', by simp [g1, k1], k2⟩
    · simp at h

def scopy (P : Program) (H : Heap) (argTypes : List TypeId) (d x : SV) : Option (SV × Heap) :=
  match argTypes with
  | t :: tx :: [] => match elemOfSlice P t, elemOfSlice P tx with
    | some e, some _ => match szOf P e with
      | some z => match sview H z d, sview H z x, d with
        | some (n, _), some (m, new), .own b off _ _ sz _ => match H.map b with
          | some blk => if sz = z ∧ new.all flat = true then some (.val (.int .i64 (min m n : Nat)), H.set b (some ⟨splice blk.cells off (new.take (min m n * z)), blk.ex⟩)) else none
          | none => none
        | _, _, _ => none
      | none => none
    | _, _ => none
  | _ => none

theorem scopy_sound {j : JMap} {H H' : Heap} {w : World} {ats : List TypeId} {ty : TypeId} {d x s' : SV} {vd vx : Value} (h : scopy P H ats d x = some (s', H')) (r : Rel j H w) (hd : VRel (OwnR j H) w j d vd) (hx : VRel (OwnR j H) w j x vx) :
    Sim P (Builtin.copy_ ats.toArray ty #[vd, vx]) j H w s' H' := by
  unfold scopy at h
  split at h
  · rename_i t tx
    split at h
    · rename_i e e2 he he2
      have hu := elemOf_under he
      split at h
      · rename_i z hz
        split at h
        · rename_i n old m new b off n0 cap0 sz ex hvx hvd
          split at h
          · rename_i blk hb
            split at h
            · rename_i hc
              obtain ⟨rfl, hflat⟩ := hc
              simp at h; obtain ⟨rfl, rfl⟩ := h
              obtain ⟨basex, capx, xs, rfl, x1, x2, x3⟩ := sview_mem hvx r hx
              have hl := sview_len hvx
              simp only [sview, hb] at hvd
              split at hvd
              · rename_i hle
                simp at hvd
                obtain ⟨rfl, _⟩ := hvd
                simp only [VRel] at hd
                obtain ⟨rb, bs, a, cap', c, e', fr, q1, rfl, q3, q4, q5, q6, q7, q8⟩ := hd
                have hmin : min m n0 * sz ≤ m * sz := Nat.mul_le_mul_right _ (Nat.min_le_left _ _)
                have hmin2 : min m n0 * sz ≤ n0 * sz := Nat.mul_le_mul_right _ (Nat.min_le_right _ _)
                have hlx := x2.take (min m n0 * sz)
                have hxl : (xs.take (min m n0 * sz)).length = min m n0 * sz := by
                  have := x2.length
                  simp; omega
                have hcl : (new.take (min m n0 * sz)).length = min m n0 * sz := by simp; omega
                have hfirst : (Builtin.firstCells sz (min m n0) (.slice basex m capx)).run P w = .ok (xs.take (min m n0 * sz)).toArray w := by
                  rcases x3 with ⟨rfl, rfl, rfl⟩ | ⟨a', rfl, x3⟩
                  · have : xs.take (min 0 n0 * sz) = [] := by simp
                    rw [this]
                    exact run_firstCells_none w _ _ _ _
                  · refine run_firstCells_some w sz (min m n0) a' m capx _ hxl (fun i u hi => ?_)
                    rw [List.getElem?_take] at hi
                    split at hi
                    · exact x3 i u hi
                    · simp at hi
                obtain ⟨p1, p2, p3, p4⟩ := setCells_rel (new.take (min m n0 * sz)) _ r hb q1 off (by rw [hcl]; omega) hlx
                by_cases h0 : min m n0 * sz = 0
                · have hnil : xs.take (min m n0 * sz) = [] := by rw [h0]; simp
                  rw [hnil] at hfirst p3 p4
                  simp only [World.setCells] at p3 p4
                  refine ⟨.int .i64 (min m n0 : Nat), w, j, ?_, p3, by simp only [VRel], p4⟩
                  simp [Builtin.copy_, run_underlying hu, Builtin.lenOf, szOf_run hz, hfirst, storeCells, goInt, Nat.min_def] at hfirst ⊢
                  first | done | simp [hfirst]
                · have hn0 : n0 ≠ 0 := by rintro rfl; simp at h0
                  have ha : a = ⟨rb, bs + off, none⟩ := q6.resolve_left (by omega)
                  subst ha
                  have hst := run_storeCells_cells (P := P) rb (bs + off) (xs.take (min m n0 * sz)) 0 w (by simpa using p1) (by simpa using p2) (LRel.ones (by
                    refine List.all_eq_true.2 (fun y hy => List.all_eq_true.1 hflat y (List.mem_of_mem_take hy))) hlx)
                  refine ⟨.int .i64 (min m n0 : Nat), _, j, ?_, p3, by simp only [VRel], p4⟩
                  have hmm : Nat.min m n0 = min m n0 := rfl
                  have hst' : (storeCells ⟨rb, bs + off, none⟩ (List.take (min m n0 * sz) xs)).run P w = .ok () (w.setCells rb (bs + off) (List.take (min m n0 * sz) xs)) := by simpa using hst
                  simp [Builtin.copy_, run_underlying hu, Builtin.lenOf, szOf_run hz, hmm, hfirst, goInt, hst']
              · simp at hvd
            · simp at h
          · simp at h
        · simp at h
      · simp at h
    · simp at h
  · simp at h
end Go.Sh

/-
  All operations under one name; regions in the order of the text; statements; calls.
-/
namespace Go.Sh
open Go Go.RowKit
variable {P : Program}

def sbuiltin (P : Program) (H : Heap) (b : Builtin) (ats : List TypeId) (args : List SV) : Option (SV × Heap) :=
  match b with
  | .len => match ats, args with
    | [t], [x] => match slen P t x with | some s => some (s, H) | none => none
    | _, _ => none
  | .max => match sfold1 smax2 args with | some s => some (s, H) | none => none
  | .min => match sfold1 smin2 args with | some s => some (s, H) | none => none
  | .append => match args with
    | [s, x] => sappend P H ats s x
    | _ => none
  | .copy => match args with
    | [d, x] => scopy P H ats d x
    | _ => none
  | _ => none

def isIface (P : Program) (t : TypeId) : Option Bool := match P.underlying t with | some (.interface _) => some true | some _ => some false | none => none

def isConstO : Operand → Bool
  | .const _ => true
  | _ => false
def sbinI (P : Program) (op : BinOp) (t : TypeId) (y : Operand) (sx sy : SV) : Option SV :=
  match sy with
  | .val .nilIface => if isIface P t = some true ∧ isConstO y = true then (match sx with
    | .iface _ _ => seqb op false
    | .val .nilIface => seqb op true
    | _ => none) else none
  | sy => sbin P op t sx sy
theorem isIface_t {t : TypeId} (h : isIface P t = some true) : ∃ ms, P.underlying t = some (.interface ms) := by
  unfold isIface at h
  split at h
  · rename_i ms hu; exact ⟨ms, hu⟩
  · simp at h
  · simp at h
theorem run_equal_inil {t : TypeId} {ms : Array (String × TypeId)} (hu : P.underlying t = some (.interface ms)) (a : TypeId) (u : Value) (w : World) : (Op.equal t (.iface a u) .nilIface).run P w = .ok false w := by
  have key : ∀ d, (Op.equalIn (d + 1) t (.iface a u) .nilIface).run P w = .ok false w := fun d => by simp only [Op.equalIn, Sem.run_bind, run_underlying hu, Result.andThen_ok, Sem.run_pure]
  exact key 9999
theorem run_equal_nilnil {t : TypeId} {ms : Array (String × TypeId)} (hu : P.underlying t = some (.interface ms)) (w : World) : (Op.equal t .nilIface .nilIface).run P w = .ok true w := by
  have key : ∀ d, (Op.equalIn (d + 1) t .nilIface .nilIface).run P w = .ok true w := fun d => by simp only [Op.equalIn, Sem.run_bind, run_underlying hu, Result.andThen_ok, Sem.run_pure]
  exact key 9999
theorem eqGuard_nilnil {op : BinOp} {t : TypeId} {x y : Operand} (h : isConstO y = true) : eqGuard op t x y .nilIface .nilIface = (pure () : Sem Unit) := by
  cases y with
  | const c => cases op <;> simp [eqGuard]
  | _ => simp [isConstO] at h
theorem sbinI_sound {O : Nat → Prop} {w : World} {j : JMap} {op : BinOp} {t : TypeId} {x y : Operand} {sx sy s : SV} {vx vy : Value} (h : sbinI P op t y sx sy = some s) (hx : VRel O w j sx vx) (hy : VRel O w j sy vy) :
    ∃ v, (do eqGuard op t x y vx vy; binOp op t vx vy : Sem Value).run P w = .ok v w ∧ VRel O w j s v := by
  unfold sbinI at h
  split at h
  · simp only [VRel] at hy
    subst hy
    split at h
    · rename_i hc
      obtain ⟨ms, hu⟩ := isIface_t hc.1
      split at h
      · simp only [VRel] at hx
        obtain ⟨u, rfl, _⟩ := hx
        rename_i a _ _
        have e1 : binOp .eql t (.iface a u) .nilIface = (do pure (.bool (← Op.equal t (.iface a u) .nilIface))) := rfl
        have e2 : binOp .neq t (.iface a u) .nilIface = (do pure (.bool (!(← Op.equal t (.iface a u) .nilIface)))) := rfl
        cases op <;> simp only [seqb] at h <;>
          first
            | (simp at h; done)
            | (simp at h; subst h; refine ⟨.bool false, ?_, by simp only [VRel]⟩; rw [eqGuard_at_iface, e1]; simp only [pure_bind, Sem.run_bind, run_equal_inil hu, Result.andThen_ok, Sem.run_pure])
            | (simp at h; subst h; refine ⟨.bool true, ?_, by simp only [VRel]⟩; rw [eqGuard_at_iface, e2]; simp only [pure_bind, Sem.run_bind, run_equal_inil hu, Result.andThen_ok, Sem.run_pure, Bool.not_false])
      · simp only [VRel] at hx
        subst hx
        have e1 : binOp .eql t .nilIface .nilIface = (do pure (.bool (← Op.equal t .nilIface .nilIface))) := rfl
        have e2 : binOp .neq t .nilIface .nilIface = (do pure (.bool (!(← Op.equal t .nilIface .nilIface)))) := rfl
        cases op <;> simp only [seqb] at h <;>
          first
            | (simp at h; done)
            | (simp at h; subst h; refine ⟨.bool true, ?_, by simp only [VRel]⟩; rw [eqGuard_nilnil hc.2, e1]; simp only [pure_bind, Sem.run_bind, run_equal_nilnil hu, Result.andThen_ok, Sem.run_pure])
            | (simp at h; subst h; refine ⟨.bool false, ?_, by simp only [VRel]⟩; rw [eqGuard_nilnil hc.2, e2]; simp only [pure_bind, Sem.run_bind, run_equal_nilnil hu, Result.andThen_ok, Sem.run_pure, Bool.not_true])
      · simp at h
    · simp at h
  · exact sbin_sound h hx hy

def globO (x : Operand) (s : SV) : SV := match x with
  | .global g => match globV g with
    | some vs => match s with
      | .val (.pointer (some a)) => if a = ⟨g, 0, none⟩ then .rptr (vs.map SV.val) 0 else s
      | s => s
    | none => s
  | _ => s
theorem globO_rel {j : JMap} {H : Heap} {w : World} {x : Operand} {s : SV} {v : Value} (r : Rel j H w) (h : VRel (OwnR j H) w j s v) : VRel (OwnR j H) w j (globO x s) v := by
  unfold globO
  split
  · rename_i g
    split
    · rename_i vs hg
      split
      · rename_i a
        split
        · rename_i ha
          subst ha
          simp only [VRel] at h ⊢
          exact ⟨⟨g, 0, none⟩, by rw [h]; rfl, globV_rel r.tab hg⟩
        · exact h
      · exact h
    · exact h
  · exact h
theorem globO_tmp (t : Nat) (s : SV) : globO (.tmp t) s = s := rfl
theorem globO_const (v : Value) (s : SV) : globO (.const v) s = s := rfl
theorem globO_global {g : Nat} {vs : List Value} (h : globV g = some vs) (σ : Slots) : globO (.global g) (sval σ (.global g)) = .rptr (vs.map SV.val) 0 := by
  simp only [globO, h, sval, if_true]

def sop (P : Program) (H : Heap) (ρ : Operand → SV) : Op → Option (SV × Heap)
  | .move x => some (ρ x, H)
  | .assign x => some (ρ x, H)
  | .pick c a b => match ρ c with
    | .val (.bool t) => some (if t = true then ρ a else ρ b, H)
    | _ => none
  | .alloc t => salloc P H t
  | .box _ x => sbox H (ρ x)
  | .build t parts => match sbuild P t ρ parts.toList with | some s => some (s, H) | none => none
  | .buildSlice t n parts => sbuildSlice P H t n ρ parts.toList
  | .load t a => match sload P H t (ρ a) with | some s => some (s, H) | none => none
  | .store t a x => match sstore P H t (ρ a) (ρ x) with | some H' => some (.undef, H') | none => none
  | .nilCheck x => match ρ x with
    | .optr b o => some (.optr b o, H)
    | .rptr cs o => some (.rptr cs o, H)
    | .clos (.func f) a c => some (.clos (.func f) a c, H)
    | _ => none
  | .binOp op t x y _ => match sbinI P op t y (ρ x) (ρ y) with | some s => some (s, H) | none => none
  | .unOp op _ x => match sun op (ρ x) with | some s => some (s, H) | none => none
  | .convert a b x => sconvA P H a b (ρ x)
  | .makeInterface t x => match isIface P t with
    | some false => some (.iface t (ρ x), H)
    | _ => none
  | .makeFunc fn f c => some (.clos fn (f.toList.map ρ) (c.toList.map ρ), H)
  | .makeSlice t l c => smake P H t (ρ l) (ρ c)
  | .slice t x lo hi mx => match sslice P H t (globO x (ρ x)) (lo.map ρ) (hi.map ρ) (mx.map ρ) with | some s => some (s, H) | none => none
  | .fieldAddr t x f => match sfieldAddr P t f (ρ x) with | some s => some (s, H) | none => none
  | .field t x f => match sfield P t f (ρ x) with | some s => some (s, H) | none => none
  | .indexAddr t x i => match sindexAddr P t (globO x (ρ x)) (ρ i) with | some s => some (s, H) | none => none
  | .index t x i => match sindex P t (ρ x) (ρ i) with | some s => some (s, H) | none => none
  | .extract x i => match ρ x with
    | .tup vs => match vs[i]? with | some s => some (s, H) | none => none
    | _ => none
  | .call c => match c.callee with
    | .builtin b => sbuiltin P H b c.argTypes.toList (c.args.toList.map ρ)
    | _ => none
  | _ => none

def OpSim (P : Program) (m : Sem Next) (j : JMap) (H : Heap) (w : World) (s : SV) (H' : Heap) : Prop :=
  ∃ v w' j', (m.run P w = .ok (.value v) w' ∨ (m.run P w = .ok .skip w' ∧ v = Go.undef)) ∧ Rel j' H' w' ∧ VRel (OwnR j' H') w' j' s v ∧ Nx j H w j' H' w'

theorem OpSim.of_sim {m : Sem Value} {j : JMap} {H H' : Heap} {w : World} {s : SV} (h : Sim P m j H w s H') : OpSim P (do pure (.value (← m))) j H w s H' := by
  obtain ⟨v, w', j', h1, h2, h3, h4⟩ := h
  exact ⟨v, w', j', .inl (by simp [h1]), h2, h3, h4⟩
theorem OpSim.of_run {m : Sem Value} {j : JMap} {H : Heap} {w : World} {s : SV} (r : Rel j H w) (h : ∃ v, m.run P w = .ok v w ∧ VRel (OwnR j H) w j s v) : OpSim P (do pure (.value (← m))) j H w s H := by
  obtain ⟨v, h1, h2⟩ := h
  exact OpSim.of_sim (Sim.same r h1 h2)
theorem OpSim.pure {j : JMap} {H : Heap} {w : World} {s : SV} {v : Value} (r : Rel j H w) (hv : VRel (OwnR j H) w j s v) : OpSim P (Pure.pure (.value v)) j H w s H :=
  ⟨v, w, j, .inl rfl, r, hv, Nx.refl _ _ _⟩

theorem isIface_under {t : TypeId} (h : isIface P t = some false) (x : Value) (w : World) : (Instr.makeInterface t x).run P w = .ok (.iface t x) w := by
  unfold isIface at h
  split at h
  · simp at h
  · rename_i d hd hu
    cases d <;> first | (simp [Instr.makeInterface, run_underlying hu]; done) | exact absurd rfl (hd _)
  · simp at h

theorem LRel.map_ops {O : Nat → Prop} {w : World} {j : JMap} {ρ : Operand → SV} {ρr : Operand → Value} : ∀ (xs : List Operand), (∀ x ∈ xs, VRel O w j (ρ x) (ρr x)) → LRel O w j (xs.map ρ) (xs.map ρr)
  | [], _ => by simp only [List.map_nil, LRel]
  | x :: xs, h => by simp only [List.map_cons, LRel]; exact ⟨_, _, rfl, h x (by simp), LRel.map_ops xs (fun y hy => h y (by simp [hy]))⟩

theorem smax2_run {O : Nat → Prop} {w : World} {j : JMap} : ∀ a b s va vb, smax2 a b = some s → VRel O w j a va → VRel O w j b vb → ∃ v, (Builtin.max2 va vb).run P w = .ok v w ∧ VRel O w j s v := by
  intro a b s va vb h ha hb
  unfold smax2 at h
  split at h
  · simp only [VRel] at ha hb; subst ha hb; simp at h; subst h
    exact ⟨_, by simp [Builtin.max2]; rfl, by simp only [VRel]⟩
  · simp at h
theorem smin2_run {O : Nat → Prop} {w : World} {j : JMap} : ∀ a b s va vb, smin2 a b = some s → VRel O w j a va → VRel O w j b vb → ∃ v, (Builtin.min2 va vb).run P w = .ok v w ∧ VRel O w j s v := by
  intro a b s va vb h ha hb
  unfold smin2 at h
  split at h
  · simp only [VRel] at ha hb; subst ha hb; simp at h; subst h
    exact ⟨_, by simp [Builtin.min2]; rfl, by simp only [VRel]⟩
  · simp at h

theorem sbuiltin_sound {j : JMap} {H H' : Heap} {w : World} {b : Builtin} {ats : Array TypeId} {ty : TypeId} {consts : Array Bool} {args : List SV} {vs : List Value} {s : SV} (h : sbuiltin P H b ats.toList args = some (s, H')) (r : Rel j H w)
    (hl : LRel (OwnR j H) w j args vs) : OpSim P (Go.builtin b ats ty consts vs.toArray) j H w s H' := by
  unfold sbuiltin at h
  split at h
  · split at h
    · rename_i t x hats
      split at h
      · rename_i s' hs
        simp at h; obtain ⟨rfl, rfl⟩ := h
        simp only [LRel] at hl
        obtain ⟨v, rest, rfl, h1, rfl⟩ := hl
        have e1 : ats = #[t] := by apply Array.ext'; simpa using hats
        subst e1
        exact OpSim.of_run r (slen_sound hs h1)
      · simp at h
    · simp at h
  · split at h
    · rename_i s' hs
      simp at h; obtain ⟨rfl, rfl⟩ := h
      cases args with
      | nil => simp [sfold1] at hs
      | cons x xs =>
        simp only [LRel] at hl
        obtain ⟨v, rest, rfl, h1, h2⟩ := hl
        refine OpSim.of_run r ?_
        obtain ⟨u, g1, g2⟩ := sfold_sound (P := P) smax2_run xs rest x v _ h2 h1 hs
        exact ⟨u, by simpa [Builtin.max_] using g1, g2⟩
    · simp at h
  · split at h
    · rename_i s' hs
      simp at h; obtain ⟨rfl, rfl⟩ := h
      cases args with
      | nil => simp [sfold1] at hs
      | cons x xs =>
        simp only [LRel] at hl
        obtain ⟨v, rest, rfl, h1, h2⟩ := hl
        refine OpSim.of_run r ?_
        obtain ⟨u, g1, g2⟩ := sfold_sound (P := P) smin2_run xs rest x v _ h2 h1 hs
        exact ⟨u, by simpa [Builtin.min_] using g1, g2⟩
    · simp at h
  · split at h
    · simp only [LRel] at hl
      obtain ⟨v, rest, rfl, h1, u, rest', rfl, h2, rfl⟩ := hl
      have := sappend_sound (ty := ty) h r h1 h2
      exact OpSim.of_sim (by simpa using this)
    · simp at h
  · split at h
    · simp only [LRel] at hl
      obtain ⟨v, rest, rfl, h1, u, rest', rfl, h2, rfl⟩ := hl
      have := scopy_sound (ty := ty) h r h1 h2
      exact OpSim.of_sim (by simpa using this)
    · simp at h
  · simp at h

theorem optMap_rel {O : Nat → Prop} {w : World} {j : JMap} {ρ : Operand → SV} {ρr : Operand → Value} (o : Option Operand) (h : ∀ x, o = some x → VRel O w j (ρ x) (ρr x)) :
    (∀ y, o.map ρ = some y → ∃ u, o.map ρr = some u ∧ VRel O w j y u) ∧ (o.map ρ = none → o.map ρr = none) := by
  cases o with
  | none => simp
  | some x => simp; exact h x rfl

theorem sop_sound {j : JMap} {H H' : Heap} {w : World} {ρ : Operand → SV} {ρr : Operand → Value} {s : SV} (o : Oper) (h : sop P H ρ o.op = some (s, H')) (r : Rel j H w) (hρ : ∀ x, VRel (OwnR j H) w j (ρ x) (ρr x)) :
    OpSim P (execOp ρr o) j H w s H' := by
  obtain ⟨dst, op, type, pos, after, guard⟩ := o
  cases op <;> simp only [sop] at h <;> simp only [execOp]
  case move x => simp at h; obtain ⟨rfl, rfl⟩ := h; exact OpSim.pure r (hρ x)
  case assign x => simp at h; obtain ⟨rfl, rfl⟩ := h; exact OpSim.pure r (hρ x)
  case pick c a b =>
    split at h
    · rename_i t ht
      simp at h; obtain ⟨rfl, rfl⟩ := h
      have hc := hρ c
      rw [ht] at hc
      simp only [VRel] at hc
      refine ⟨if t then ρr a else ρr b, w, j, .inl (by simp [hc, asBool]), r, ?_, Nx.refl _ _ _⟩
      cases t
      · simpa using hρ b
      · simpa using hρ a
    · simp at h
  case alloc t => exact OpSim.of_sim (salloc_sound h r)
  case box t x => exact OpSim.of_sim (sbox_sound h r (hρ x))
  case build t parts =>
    split at h
    · rename_i s' hs
      simp at h; obtain ⟨rfl, rfl⟩ := h
      exact OpSim.of_sim (sbuild_sound (ρr := ρr) hs r (fun p _ => hρ p.2))
    · simp at h
  case buildSlice t n parts => exact OpSim.of_sim (sbuildSlice_sound (ρr := ρr) h r (fun p _ => hρ p.2))
  case load t a =>
    split at h
    · rename_i s' hs
      simp at h; obtain ⟨rfl, rfl⟩ := h
      exact OpSim.of_sim (sload_sound hs r (hρ a))
    · simp at h
  case store t a x =>
    split at h
    · rename_i H1 hs
      simp at h; obtain ⟨rfl, rfl⟩ := h
      obtain ⟨w', h1, h2, h3⟩ := sstore_sound hs r (hρ a) (hρ x)
      exact ⟨Go.undef, w', j, .inr ⟨by simp [h1], rfl⟩, h2, by simp only [VRel], h3⟩
    · simp at h
  case nilCheck x =>
    have hx := hρ x
    split at h
    · rename_i b o he
      simp at h; obtain ⟨rfl, rfl⟩ := h
      rw [he] at hx
      have hx' := hx
      simp only [VRel] at hx
      obtain ⟨rb, base, _, e⟩ := hx
      refine ⟨ρr x, w, j, .inl (by rw [e]; rfl), r, hx', Nx.refl _ _ _⟩
    · rename_i cs o he
      simp at h; obtain ⟨rfl, rfl⟩ := h
      rw [he] at hx
      have hx' := hx
      simp only [VRel] at hx
      obtain ⟨a, e, _⟩ := hx
      refine ⟨ρr x, w, j, .inl (by rw [e]; rfl), r, hx', Nx.refl _ _ _⟩
    · rename_i f a c he
      simp at h; obtain ⟨rfl, rfl⟩ := h
      rw [he] at hx
      have hx' := hx
      simp only [VRel] at hx
      obtain ⟨us, vs, e, _⟩ := hx
      refine ⟨ρr x, w, j, .inl (by rw [e]; rfl), r, hx', Nx.refl _ _ _⟩
    · simp at h
  case binOp op t x y ty =>
    split at h
    · rename_i s' hs
      simp at h; obtain ⟨rfl, rfl⟩ := h
      exact OpSim.of_run r (sbinI_sound hs (hρ x) (hρ y))
    · simp at h
  case unOp op t x =>
    split at h
    · rename_i s' hs
      simp at h; obtain ⟨rfl, rfl⟩ := h
      exact OpSim.of_run r (sun_sound hs (hρ x))
    · simp at h
  case convert a b x =>
    unfold sconvA at h
    split at h
    · rename_i hb
      exact OpSim.of_sim (sbytes_sound h hb.2 r (hρ x))
    · split at h
      · rename_i s' hs
        simp at h; obtain ⟨rfl, rfl⟩ := h
        exact OpSim.of_run r (sconvH_sound hs r (hρ x))
      · simp at h
  case makeInterface t x =>
    split at h
    · rename_i hs
      simp at h; obtain ⟨rfl, rfl⟩ := h
      exact OpSim.of_run r ⟨_, isIface_under hs _ _, by simp only [VRel]; exact ⟨_, rfl, hρ x⟩⟩
    · simp at h
  case makeFunc fn f c =>
    simp at h; obtain ⟨rfl, rfl⟩ := h
    refine OpSim.of_run r ⟨.func fn (f.map ρr) (c.map ρr), rfl, ?_⟩
    simp only [VRel]
    exact ⟨f.toList.map ρr, c.toList.map ρr, by rw [Value.func.injEq]; exact ⟨rfl, by apply Array.ext'; simp, by apply Array.ext'; simp⟩, LRel.map_ops _ (fun x _ => hρ x), LRel.map_ops _ (fun x _ => hρ x)⟩
  case makeSlice t l c => exact OpSim.of_sim (smake_sound h r (hρ l) (hρ c))
  case slice t x lo hi mx =>
    split at h
    · rename_i s' hs
      simp at h; obtain ⟨rfl, rfl⟩ := h
      have h1 := optMap_rel (ρ := ρ) (ρr := ρr) lo (fun x _ => hρ x)
      have h2 := optMap_rel (ρ := ρ) (ρr := ρr) hi (fun x _ => hρ x)
      have h3 := optMap_rel (ρ := ρ) (ρr := ρr) mx (fun x _ => hρ x)
      exact OpSim.of_sim (sslice_sound hs r (globO_rel r (hρ x)) h1.1 h1.2 h2.1 h2.2 h3.1 h3.2)
    · simp at h
  case fieldAddr t x f =>
    split at h
    · rename_i s' hs
      simp at h; obtain ⟨rfl, rfl⟩ := h
      exact OpSim.of_sim (sfieldAddr_sound hs r (hρ x))
    · simp at h
  case field t x f =>
    split at h
    · rename_i s' hs
      simp at h; obtain ⟨rfl, rfl⟩ := h
      exact OpSim.of_sim (sfield_sound hs r (hρ x))
    · simp at h
  case indexAddr t x i =>
    split at h
    · rename_i s' hs
      simp at h; obtain ⟨rfl, rfl⟩ := h
      exact OpSim.of_sim (sindexAddr_sound hs r (globO_rel r (hρ x)) (hρ i))
    · simp at h
  case index t x i =>
    split at h
    · rename_i s' hs
      simp at h; obtain ⟨rfl, rfl⟩ := h
      exact OpSim.of_sim (sindex_sound hs r (hρ x) (hρ i))
    · simp at h
  case extract x i =>
    split at h
    · rename_i vs he
      split at h
      · rename_i s' hs
        simp at h; obtain ⟨rfl, rfl⟩ := h
        have hx := hρ x
        rw [he] at hx
        simp only [VRel] at hx
        obtain ⟨us, e, hl⟩ := hx
        obtain ⟨u, g1, g2⟩ := hl.get hs
        refine OpSim.of_run r ⟨u, ?_, g2⟩
        rw [e]
        simp [Instr.extract, g1]
      · simp at h
    · simp at h
  case call c =>
    obtain ⟨callee, args, argTypes⟩ := c
    cases callee with
    | builtin b =>
      simp only [] at h
      have hl : LRel (OwnR j H) w j (args.toList.map ρ) (args.toList.map ρr) := LRel.map_ops _ (fun x _ => hρ x)
      have := sbuiltin_sound (ty := type) (consts := args.map fun | .const _ => true | _ => false) h r hl
      simp only [resolve, pure_bind, invoke]
      have e1 : (args.toList.map ρr).toArray = args.map ρr := by apply Array.ext'; simp
      rw [e1] at this
      exact this
    | value f => simp at h
    | invoke f m => simp at h
  all_goals simp at h
end Go.Sh
