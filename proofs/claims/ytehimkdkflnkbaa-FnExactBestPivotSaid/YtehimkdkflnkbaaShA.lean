/-
  A shadow of a run: values without addresses, a small heap of what the call itself made, and how both stand to the machine's world.
  No statement of a claim is proved here: only what the claim's text leans on.
-/
import Derived.Below
import Derived.Calls
import Derived.Control
import Derived.Laws.Sem
import Derived.Laws.World
import Derived.Laws.Cells
import Derived.Orders
namespace Go.Sh
set_option linter.unusedSimpArgs false
set_option linter.unusedVariables false
open Go Go.RowKit

/-- A value as the proofs see it. 'val': itself. 'row': a slice over cells that nobody writes. 'rptr': an address of such cells. 'own', 'optr': a slice over, an address in, a block of the call's own. -/
inductive SV where
  | undef
  | val (v : Value)
  | row (n : Nat) (ex : Bool) (cs : List SV)
  | rptr (cs : List SV) (off : Nat)
  | own (b off n cap sz : Nat) (ex : Bool)
  | optr (b off : Nat)
  | agg (cs : List SV)
  | tup (vs : List SV)
  | clos (fn : Fn) (first captured : List SV)
  | iface (t : TypeId) (v : SV)

instance : Inhabited SV := ⟨.undef⟩

abbrev JMap := Nat → Option (Nat × Nat)
def noj : JMap := fun _ => none

mutual
/-- What the real value v is of the shadow's. O: the real blocks that may be written. -/
def VRel (O : Nat → Prop) (w : World) : JMap → SV → Value → Prop
  | _, .undef, _ => True
  | _, .val u, v => v = u
  | _, .row n ex cs, v => ∃ a cap, v = .slice a n cap ∧ n ≤ cap ∧ (ex = true → cap = n) ∧ ((a = none ∧ n = 0 ∧ cap = 0 ∧ cs = []) ∨ ∃ b, a = some b ∧ CRel O w cs b)
  | _, .rptr cs off, v => ∃ a, v = .pointer (some (a.add off)) ∧ CRel O w cs a
  | j, .own b off n cap sz ex, v => ∃ rb base a cap' c e fr, j b = some (rb, base) ∧ v = .slice (some a) n cap' ∧ n ≤ cap ∧ cap ≤ cap' ∧ (ex = true → cap' = cap) ∧
      (cap' = 0 ∨ a = ⟨rb, base + off, none⟩) ∧ w.heap[rb]? = some (.cells c e fr) ∧ base + off + cap' * sz ≤ c.size
  | j, .optr b off, v => ∃ rb base, j b = some (rb, base) ∧ v = .pointer (some ⟨rb, base + off, none⟩)
  | j, .agg cs, v => ∃ vs : List Value, v = .agg vs.toArray ∧ LRel O w j cs vs
  | j, .tup cs, v => ∃ vs : List Value, v = .tuple vs.toArray ∧ LRel O w j cs vs
  | j, .clos fn fs cs, v => ∃ us vs : List Value, v = .func fn us.toArray vs.toArray ∧ LRel O w j fs us ∧ LRel O w j cs vs
  | j, .iface t s, v => ∃ u, v = .iface t u ∧ VRel O w j s u
def LRel (O : Nat → Prop) (w : World) : JMap → List SV → List Value → Prop
  | _, [], vs => vs = []
  | j, s :: ss, vs => ∃ v rest, vs = v :: rest ∧ VRel O w j s v ∧ LRel O w j ss rest
def CRel (O : Nat → Prop) (w : World) : List SV → Addr → Prop
  | [], _ => True
  | s :: ss, a => a.spot = none ∧ ¬ O a.block ∧ (∃ v, w.cell? a = some v ∧ VRel O w noj s v) ∧ CRel O w ss ⟨a.block, a.off + 1, none⟩
end

/-- From one world and one set of written blocks to another: what rows need. -/
structure Tr (O : Nat → Prop) (w : World) (O' : Nat → Prop) (w' : World) : Prop where
  cell : ∀ (a : Addr) (v : Value), w.cell? a = some v → ¬ O a.block → w'.cell? a = some v ∧ ¬ O' a.block
  blk : ∀ (k : Nat) (c : Array Value) (e : TypeId) (fr : Nat × Nat), w.heap[k]? = some (.cells c e fr) → ∃ (c' : Array Value) (e' : TypeId) (fr' : Nat × Nat), w'.heap[k]? = some (.cells c' e' fr') ∧ c'.size = c.size

mutual
theorem VRel.tr {O O' : Nat → Prop} {w w' : World} (T : Tr O w O' w') : ∀ {j j' : JMap} (_ : ∀ b p, j b = some p → j' b = some p) (s : SV) (v : Value), VRel O w j s v → VRel O' w' j' s v
  | _, _, _, .undef, _, _ => by simp only [VRel]
  | _, _, _, .val u, v, h => by simpa only [VRel] using h
  | _, _, _, .row n ex cs, v, h => by
    simp only [VRel] at h ⊢
    obtain ⟨a, cap, h1, h2, h3, h4⟩ := h
    refine ⟨a, cap, h1, h2, h3, ?_⟩
    rcases h4 with h4 | ⟨b, h4, h5⟩
    · exact .inl h4
    · exact .inr ⟨b, h4, CRel.tr T cs b h5⟩
  | _, _, _, .rptr cs off, v, h => by
    simp only [VRel] at h ⊢
    obtain ⟨a, h1, h4⟩ := h
    exact ⟨a, h1, CRel.tr T cs a h4⟩
  | _, _, hj, .own b off n cap sz ex, v, h => by
    simp only [VRel] at h ⊢
    obtain ⟨rb, base, a, cap', c, e, fr, h1, h2, h3, h4, h5, h6, h7, h8⟩ := h
    obtain ⟨c', e', fr', g1, g2⟩ := T.blk rb c e fr h7
    exact ⟨rb, base, a, cap', c', e', fr', hj _ _ h1, h2, h3, h4, h5, h6, g1, by omega⟩
  | _, _, hj, .optr b off, v, h => by
    simp only [VRel] at h ⊢
    obtain ⟨rb, base, h1, h2⟩ := h
    exact ⟨rb, base, hj _ _ h1, h2⟩
  | _, _, hj, .agg cs, v, h => by
    simp only [VRel] at h ⊢
    obtain ⟨vs, h1, h2⟩ := h
    exact ⟨vs, h1, LRel.tr T hj cs vs h2⟩
  | _, _, hj, .tup cs, v, h => by
    simp only [VRel] at h ⊢
    obtain ⟨vs, h1, h2⟩ := h
    exact ⟨vs, h1, LRel.tr T hj cs vs h2⟩
  | _, _, hj, .clos fn fs cs, v, h => by
    simp only [VRel] at h ⊢
    obtain ⟨us, vs, h1, h2, h3⟩ := h
    exact ⟨us, vs, h1, LRel.tr T hj fs us h2, LRel.tr T hj cs vs h3⟩
  | _, _, hj, .iface t s, v, h => by
    simp only [VRel] at h ⊢
    obtain ⟨u, h1, h2⟩ := h
    exact ⟨u, h1, VRel.tr T hj s u h2⟩
theorem LRel.tr {O O' : Nat → Prop} {w w' : World} (T : Tr O w O' w') : ∀ {j j' : JMap} (_ : ∀ b p, j b = some p → j' b = some p) (s : List SV) (v : List Value), LRel O w j s v → LRel O' w' j' s v
  | _, _, _, [], vs, h => by simpa only [LRel] using h
  | _, _, hj, s :: ss, vs, h => by
    simp only [LRel] at h ⊢
    obtain ⟨v, rest, h1, h2, h3⟩ := h
    exact ⟨v, rest, h1, VRel.tr T hj s v h2, LRel.tr T hj ss rest h3⟩
theorem CRel.tr {O O' : Nat → Prop} {w w' : World} (T : Tr O w O' w') : ∀ (s : List SV) (a : Addr), CRel O w s a → CRel O' w' s a
  | [], a, _ => by simp only [CRel]
  | s :: ss, a, h => by
    simp only [CRel] at h ⊢
    obtain ⟨h1, h2, ⟨v, h3, h4⟩, h5⟩ := h
    obtain ⟨g1, g2⟩ := T.cell a v h3 h2
    exact ⟨h1, g2, ⟨v, g1, VRel.tr T (fun _ _ h => h) s v h4⟩, CRel.tr T ss _ h5⟩
end

theorem Tr.refl (O : Nat → Prop) (w : World) : Tr O w O w := ⟨fun _ _ h g => ⟨h, g⟩, fun _ c e fr h => ⟨c, e, fr, h, rfl⟩⟩
theorem Tr.weaken {O O' : Nat → Prop} (w : World) (h : ∀ k, O' k → O k) : Tr O w O' w := ⟨fun _ _ g i => ⟨g, fun x => i (h _ x)⟩, fun _ c e fr h => ⟨c, e, fr, h, rfl⟩⟩

theorem VRel.of_noj {O : Nat → Prop} {w : World} {j : JMap} {s : SV} {v : Value} (h : VRel O w noj s v) : VRel O w j s v :=
  VRel.tr (Tr.refl O w) (by intro b p h; simp [noj] at h) s v h

/-! ### The heap of the call's own blocks -/

structure Blk where
  cells : List SV
  ex : Bool

structure Heap where
  map : Nat → Option Blk
  nb : Nat

def Heap.empty : Heap := ⟨fun _ => none, 0⟩
def Heap.set (H : Heap) (b : Nat) (k : Option Blk) : Heap := ⟨fun x => if x = b then k else H.map x, H.nb⟩
def Heap.push (H : Heap) (k : Blk) : Heap := ⟨fun x => if x = H.nb then some k else H.map x, H.nb + 1⟩

def OwnR (j : JMap) (H : Heap) (k : Nat) : Prop := ∃ b blk base, H.map b = some blk ∧ j b = some (k, base)

def BlkAt (O : Nat → Prop) (j : JMap) (w : World) (blk : Blk) (rb base : Nat) : Prop :=
  ∃ c e lo hi, w.heap[rb]? = some (.cells c e (lo, hi)) ∧ (hi ≤ lo ∨ c.size ≤ lo) ∧ base + blk.cells.length ≤ c.size ∧ (blk.ex = true → base + blk.cells.length = c.size) ∧
    ∀ i s, blk.cells[i]? = some s → ∃ v, c[base + i]? = some v ∧ VRel O w j s v

structure Rel (j : JMap) (H : Heap) (w : World) : Prop where
  dom : ∀ b p, j b = some p → b < H.nb
  live : ∀ b blk, H.map b = some blk → ∃ rb base, j b = some (rb, base) ∧ BlkAt (OwnR j H) j w blk rb base
  inj : ∀ b b' blk blk' rb base base', H.map b = some blk → H.map b' = some blk' → j b = some (rb, base) → j b' = some (rb, base') → b = b'

structure Nx (j : JMap) (H : Heap) (w : World) (j' : JMap) (H' : Heap) (w' : World) : Prop where
  os : w'.os = w.os
  tape : w'.tape = w.tape
  output : w'.output = w.output
  size : w.heap.size ≤ w'.heap.size
  keep : ∀ k, k < w.heap.size → ¬ OwnR j H k → w'.heap[k]? = w.heap[k]?
  sizes : ∀ (k : Nat) (c : Array Value) (e : TypeId) (fr : Nat × Nat), w.heap[k]? = some (.cells c e fr) → ∃ (c' : Array Value) (e' : TypeId) (fr' : Nat × Nat), w'.heap[k]? = some (.cells c' e' fr') ∧ c'.size = c.size
  jle : ∀ b, b < H.nb → j' b = j b
  nble : H.nb ≤ H'.nb
  own : ∀ k, OwnR j' H' k → OwnR j H k ∨ w.heap.size ≤ k

theorem Nx.refl (j : JMap) (H : Heap) (w : World) : Nx j H w j H w :=
  ⟨rfl, rfl, rfl, Nat.le_refl _, fun _ _ _ => rfl, fun _ c e fr h => ⟨c, e, fr, h, rfl⟩, fun _ _ => rfl, Nat.le_refl _, fun _ h => .inl h⟩

theorem Nx.trans {j j' j'' : JMap} {H H' H'' : Heap} {w w' w'' : World} (h : Nx j H w j' H' w') (g : Nx j' H' w' j'' H'' w'') : Nx j H w j'' H'' w'' where
  os := g.os.trans h.os
  tape := g.tape.trans h.tape
  output := g.output.trans h.output
  size := Nat.le_trans h.size g.size
  keep k hk ho := by
    rw [g.keep k (Nat.lt_of_lt_of_le hk h.size) (fun o => (h.own k o).elim ho (fun hs => by omega)), h.keep k hk ho]
  sizes k c e fr hc := by
    obtain ⟨c1, e1, f1, h1, h2⟩ := h.sizes k c e fr hc
    obtain ⟨c2, e2, f2, g1, g2⟩ := g.sizes k c1 e1 f1 h1
    exact ⟨c2, e2, f2, g1, g2.trans h2⟩
  jle b hb := (g.jle b (Nat.lt_of_lt_of_le hb h.nble)).trans (h.jle b hb)
  nble := Nat.le_trans h.nble g.nble
  own k o := by
    rcases g.own k o with o1 | o1
    · exact h.own k o1
    · exact .inr (Nat.le_trans h.size o1)

theorem cell_lt {w : World} {a : Addr} {v : Value} (h : w.cell? a = some v) : a.block < w.heap.size := World.block_lt_of_cell? w a h
theorem cell_of_heap {w w' : World} {a : Addr} (h : w'.heap[a.block]? = w.heap[a.block]?) : w'.cell? a = w.cell? a := by simp only [World.cell?, h]

theorem Nx.tr {j j' : JMap} {H H' : Heap} {w w' : World} (h : Nx j H w j' H' w') : Tr (OwnR j H) w (OwnR j' H') w' where
  cell a v hc ho := by
    have hlt := cell_lt hc
    refine ⟨by rw [cell_of_heap (h.keep _ hlt ho), hc], fun o => (h.own _ o).elim ho (fun hs => by omega)⟩
  blk := h.sizes

theorem Nx.jmono {j j' : JMap} {H H' : Heap} {w w' : World} (h : Nx j H w j' H' w') (r : Rel j H w) : ∀ b p, j b = some p → j' b = some p :=
  fun b p hp => (h.jle b (r.dom b p hp)).trans hp

theorem VRel.nx {j j' : JMap} {H H' : Heap} {w w' : World} (r : Rel j H w) (h : Nx j H w j' H' w') {s : SV} {v : Value} (hv : VRel (OwnR j H) w j s v) : VRel (OwnR j' H') w' j' s v :=
  VRel.tr h.tr (h.jmono r) s v hv
theorem LRel.nx {j j' : JMap} {H H' : Heap} {w w' : World} (r : Rel j H w) (h : Nx j H w j' H' w') {s : List SV} {v : List Value} (hv : LRel (OwnR j H) w j s v) : LRel (OwnR j' H') w' j' s v :=
  LRel.tr h.tr (h.jmono r) s v hv

/-! ### Lists of related values -/
theorem LRel.length {O : Nat → Prop} {w : World} {j : JMap} : ∀ {ss : List SV} {vs : List Value}, LRel O w j ss vs → vs.length = ss.length
  | [], vs, h => by simp only [LRel] at h; simp [h]
  | s :: ss, vs, h => by
    simp only [LRel] at h
    obtain ⟨v, rest, rfl, _, h2⟩ := h
    simp [LRel.length h2]
theorem LRel.get {O : Nat → Prop} {w : World} {j : JMap} : ∀ {ss : List SV} {vs : List Value} {i : Nat} {s : SV}, LRel O w j ss vs → ss[i]? = some s → ∃ v, vs[i]? = some v ∧ VRel O w j s v
  | [], vs, i, s, h, hi => by simp at hi
  | s :: ss, vs, 0, s', h, hi => by
    simp only [LRel] at h
    obtain ⟨v, rest, rfl, h1, h2⟩ := h
    simp at hi; subst hi
    exact ⟨v, by simp, h1⟩
  | s :: ss, vs, i + 1, s', h, hi => by
    simp only [LRel] at h
    obtain ⟨v, rest, rfl, h1, h2⟩ := h
    obtain ⟨u, hu, hr⟩ := LRel.get (i := i) h2 (by simpa using hi)
    exact ⟨u, by simpa using hu, hr⟩
theorem LRel.mk {O : Nat → Prop} {w : World} {j : JMap} : ∀ {ss : List SV} {vs : List Value}, vs.length = ss.length → (∀ (i : Nat) (s : SV) (v : Value), ss[i]? = some s → vs[i]? = some v → VRel O w j s v) → LRel O w j ss vs
  | [], vs, hl, _ => by simp only [LRel]; simpa using hl
  | s :: ss, [], hl, _ => by simp at hl
  | s :: ss, v :: vs, hl, h => by
    simp only [LRel]
    exact ⟨v, vs, rfl, h 0 s v (by simp) (by simp), LRel.mk (by simpa using hl) (fun i s v hi hv => h (i + 1) s v (by simpa using hi) (by simpa using hv))⟩
theorem LRel.append {O : Nat → Prop} {w : World} {j : JMap} : ∀ {ss ts : List SV} {vs us : List Value}, LRel O w j ss vs → LRel O w j ts us → LRel O w j (ss ++ ts) (vs ++ us)
  | [], ts, vs, us, h, g => by simp only [LRel] at h; subst h; simpa using g
  | s :: ss, ts, vs, us, h, g => by
    simp only [LRel] at h
    obtain ⟨v, rest, rfl, h1, h2⟩ := h
    simp only [List.cons_append, LRel]
    exact ⟨v, rest ++ us, rfl, h1, LRel.append h2 g⟩
theorem LRel.map_val {O : Nat → Prop} {w : World} {j : JMap} : ∀ (vs : List Value), LRel O w j (vs.map SV.val) vs
  | [] => by simp only [List.map_nil, LRel]
  | v :: vs => by simp only [List.map_cons, LRel]; exact ⟨v, vs, rfl, by simp only [VRel], LRel.map_val vs⟩

theorem CRel.get {O : Nat → Prop} {w : World} : ∀ {ss : List SV} {a : Addr} {i : Nat} {s : SV}, CRel O w ss a → ss[i]? = some s →
    ∃ v, a.spot = none ∧ ¬ O a.block ∧ w.cell? ⟨a.block, a.off + i, none⟩ = some v ∧ VRel O w noj s v
  | [], a, i, s, h, hi => by simp at hi
  | s :: ss, a, 0, s', h, hi => by
    simp only [CRel] at h
    obtain ⟨h1, h2, ⟨v, h3, h4⟩, h5⟩ := h
    simp at hi; subst hi
    obtain ⟨ab, ao, sp⟩ := a
    simp at h1; subst h1
    exact ⟨v, rfl, h2, h3, h4⟩
  | s :: ss, a, i + 1, s', h, hi => by
    simp only [CRel] at h
    obtain ⟨h1, h2, _, h5⟩ := h
    obtain ⟨v, _, _, g3, g4⟩ := CRel.get (i := i) h5 (by simpa using hi)
    exact ⟨v, h1, h2, by simpa [Nat.add_assoc, Nat.add_comm 1 i] using g3, g4⟩
theorem CRel.mk {O : Nat → Prop} {w : World} : ∀ {ss : List SV} {b o : Nat}, (ss ≠ [] → ¬ O b) → (∀ i s, ss[i]? = some s → ∃ v, w.cell? ⟨b, o + i, none⟩ = some v ∧ VRel O w noj s v) → CRel O w ss ⟨b, o, none⟩
  | [], _, _, _, _ => by simp only [CRel]
  | s :: ss, b, o, hO, h => by
    simp only [CRel]
    refine ⟨trivial, hO (by simp), by simpa using h 0 s (by simp), CRel.mk (fun _ => hO (by simp)) (fun i s hi => ?_)⟩
    have := h (i + 1) s (by simpa using hi)
    simpa [Nat.add_assoc, Nat.add_comm 1 i] using this
theorem CRel.drop {O : Nat → Prop} {w : World} : ∀ {ss : List SV} {a : Addr} (i : Nat), CRel O w ss a → CRel O w (ss.drop i) (if i = 0 then a else ⟨a.block, a.off + i, none⟩)
  | ss, a, 0, h => by simpa using h
  | [], a, i + 1, h => by simp only [List.drop_nil, CRel]
  | s :: ss, a, i + 1, h => by
    simp only [CRel] at h
    have := CRel.drop i h.2.2.2
    simp only [List.drop_succ_cons]
    by_cases h0 : i = 0
    · subst h0; simpa using this
    · simpa [h0, Nat.add_assoc, Nat.add_comm 1 i] using this
theorem CRel.take {O : Nat → Prop} {w : World} : ∀ {ss : List SV} {a : Addr} (i : Nat), CRel O w ss a → CRel O w (ss.take i) a
  | ss, a, 0, h => by simp only [List.take_zero, CRel]
  | [], a, i + 1, h => by simp only [List.take_nil, CRel]
  | s :: ss, a, i + 1, h => by
    simp only [CRel] at h
    simp only [List.take_succ_cons, CRel]
    exact ⟨h.1, h.2.1, h.2.2.1, CRel.take i h.2.2.2⟩
end Go.Sh
