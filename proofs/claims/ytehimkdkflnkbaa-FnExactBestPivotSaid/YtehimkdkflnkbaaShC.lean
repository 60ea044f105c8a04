/-
  The operations as the shadow sees them, and that the machine's operations do the same.
-/
import Derived.Test.YtehimkdkflnkbaaShB
import Derived.WalkKit
namespace Go.Sh
set_option linter.unusedSimpArgs false
set_option linter.unusedVariables false
open Go Go.RowKit

/-! ### Facts on types -/
def szOf (P : Program) (t : TypeId) : Option Nat := (P.info? t).map (·.size)
def bytesIn (P : Program) (t : TypeId) : Option Nat := (P.info? t).map (·.bytes)
def zeroOf (P : Program) (t : TypeId) : Option (List SV) := (P.info? t).bind fun i => i.zero.map fun z => z.cells.toList.map SV.val
def isAggD : TypeDesc → Bool
  | .struct _ => true
  | .array _ _ => true
  | _ => false
def aggOf (P : Program) (t : TypeId) : Option Bool := (P.underlying t).map isAggD
def elemOfSlice (P : Program) (t : TypeId) : Option TypeId := match P.underlying t with | some (.slice e) => some e | _ => none
def fieldOf (P : Program) (t : TypeId) (f : Nat) : Option (TypeId × Nat) := match P.underlying t with | some (.struct fs) => (fs[f]?).map fun d => (d.type, d.offset) | _ => none
def arrayOf (P : Program) (t : TypeId) : Option (Nat × TypeId) := match P.underlying t with | some (.array n e) => some (n, e) | _ => none

variable {P : Program}
theorem szOf_run {t : TypeId} {n : Nat} (h : szOf P t = some n) (w : World) : (sizeOf t).run P w = .ok n w := by
  unfold szOf at h
  cases hi : P.info? t with
  | none => simp [hi] at h
  | some i => simp [hi] at h; simp [sizeOf, typeInfo, hi, h]
theorem aggOf_run {t : TypeId} {b : Bool} (h : aggOf P t = some b) (w : World) : (isAgg t).run P w = .ok b w := by
  unfold aggOf at h
  cases hu : P.underlying t with
  | none => simp [hu] at h
  | some d => simp [hu] at h; subst h; cases d <;> simp [isAgg, run_underlying hu, isAggD]
theorem elemOf_under {t e : TypeId} (h : elemOfSlice P t = some e) : P.underlying t = some (.slice e) := by
  unfold elemOfSlice at h
  split at h
  · rename_i e' hu; simp at h; subst h; exact hu
  · simp at h
theorem elemOf_elem {t e : TypeId} (h : elemOfSlice P t = some e) : P.underlying t = some (.slice (P.elem t)) := by
  have h1 := elemOf_under h
  have : P.elem t = e := by simp [Program.elem, h1]
  rw [this]; exact h1

/-! ### Constants and operands -/
def ofConst : Value → SV
  | .agg cs => .agg (cs.toList.map .val)
  | .tuple cs => .tup (cs.toList.map .val)
  | v => .val v
theorem VRel.ofConst {O : Nat → Prop} {w : World} {j : JMap} (v : Value) : VRel O w j (ofConst v) v := by
  cases v <;> simp only [Sh.ofConst, VRel]
  case agg cs => exact ⟨cs.toList, rfl, LRel.map_val _⟩
  case tuple cs => exact ⟨cs.toList, rfl, LRel.map_val _⟩

abbrev Slots := Nat → SV
def sval (σ : Slots) : Operand → SV
  | .tmp t => σ t
  | .const v => ofConst v
  | .global g => .val (.pointer (some ⟨g, 0, none⟩))
  | .func f => .clos (.func f) [] []
def upd (σ : Slots) (d : Nat) (s : SV) : Slots := fun t => if t = d then s else σ t
def updO (σ : Slots) (d : Option Nat) (s : SV) : Slots := match d with | some d => upd σ d s | none => σ

def SRel (O : Nat → Prop) (w : World) (j : JMap) (σ : Slots) (ts : Array Value) : Prop := ∀ t, VRel O w j (σ t) (ts.getD t Go.undef)

theorem SRel.eval {O : Nat → Prop} {w : World} {j : JMap} {σ : Slots} {a : Act} (h : SRel O w j σ a.tmps) (x : Operand) : VRel O w j (sval σ x) (a.eval x) := by
  cases x with
  | tmp t => exact h t
  | const v => exact VRel.ofConst v
  | global g => simp only [sval, Act.eval, VRel]
  | func f => simp only [sval, Act.eval, VRel, LRel]; exact ⟨[], [], rfl, rfl, rfl⟩

theorem SRel.put {O : Nat → Prop} {w : World} {j : JMap} {σ : Slots} {ts : Array Value} (h : SRel O w j σ ts) {d : Nat} (hd : d < ts.size) {s : SV} {v : Value} (hv : VRel O w j s v) :
    SRel O w j (upd σ d s) (ts.setIfInBounds d v) := by
  intro t
  unfold upd
  by_cases ht : t = d
  · subst ht
    simpa [Array.getD, hd] using hv
  · rw [if_neg ht]
    have := h t
    simpa [Array.getD_eq_getD_getElem?, Array.getElem?_setIfInBounds_ne (Ne.symm ht)] using this

/-! ### Cells of a value -/
def cellsOf : SV → Option (List SV)
  | .agg cs => some cs
  | .undef => none
  | .tup _ => none
  | .val v => if v.oneCell' then some [.val v] else none
  | s => some [s]
def flat : SV → Bool
  | .undef => false
  | .agg _ => false
  | .tup _ => false
  | .val v => v.oneCell'
  | _ => true

theorem cells_one {v : Value} (h : v.oneCell' = true) : v.cells = #[v] := by cases v <;> simp_all [Value.oneCell', Value.cells]
theorem flat_one {O : Nat → Prop} {w : World} {j : JMap} {s : SV} {v : Value} (hf : flat s = true) (h : VRel O w j s v) : v.oneCell' = true := by
  cases s with
  | undef => simp [flat] at hf
  | agg cs => simp [flat] at hf
  | tup cs => simp [flat] at hf
  | val u => simp only [VRel] at h; subst h; simpa [flat] using hf
  | row n ex cs => simp only [VRel] at h; obtain ⟨a, cap, rfl, _⟩ := h; rfl
  | rptr cs off => simp only [VRel] at h; obtain ⟨a, rfl, _⟩ := h; rfl
  | own b off n cap sz ex => simp only [VRel] at h; obtain ⟨rb, base, a, cap', c, e, fr, _, rfl, _⟩ := h; rfl
  | optr b off => simp only [VRel] at h; obtain ⟨rb, base, _, rfl⟩ := h; rfl
  | clos fn fs cs => simp only [VRel] at h; obtain ⟨us, vs, rfl, _⟩ := h; rfl
  | iface t s => simp only [VRel] at h; obtain ⟨u, rfl, _⟩ := h; rfl
theorem cells_rel {O : Nat → Prop} {w : World} {j : JMap} {s : SV} {v : Value} {cs : List SV} (hc : cellsOf s = some cs) (h : VRel O w j s v) : LRel O w j cs v.cells.toList := by
  have one : ∀ s', cellsOf s = some [s'] → s = s' → v.oneCell' = true → cs = [s'] → LRel O w j cs v.cells.toList := by
    intro s' _ e ho ec
    subst ec; subst e
    rw [cells_one ho]
    simp only [LRel]
    exact ⟨v, [], rfl, h, rfl⟩
  cases s with
  | undef => simp [cellsOf] at hc
  | tup cs => simp [cellsOf] at hc
  | agg cs' =>
    simp [cellsOf] at hc; subst hc
    simp only [VRel] at h
    obtain ⟨vs, rfl, h⟩ := h
    simpa [Value.cells] using h
  | val u =>
    simp only [cellsOf] at hc
    split at hc
    · rename_i ho
      refine one _ (by simp [cellsOf, ho]) rfl ?_ (by simpa using hc.symm)
      simp only [VRel] at h; subst h; exact ho
    · simp at hc
  | row n ex cs' => exact one _ rfl rfl (flat_one rfl h) (by simpa [cellsOf] using hc.symm)
  | rptr cs' off => exact one _ rfl rfl (flat_one rfl h) (by simpa [cellsOf] using hc.symm)
  | own b off n cap sz ex => exact one _ rfl rfl (flat_one rfl h) (by simpa [cellsOf] using hc.symm)
  | optr b off => exact one _ rfl rfl (flat_one rfl h) (by simpa [cellsOf] using hc.symm)
  | clos fn fs cs' => exact one _ rfl rfl (flat_one rfl h) (by simpa [cellsOf] using hc.symm)
  | iface t s => exact one _ rfl rfl (flat_one rfl h) (by simpa [cellsOf] using hc.symm)
theorem LRel.ones {O : Nat → Prop} {w : World} {j : JMap} : ∀ {ss : List SV} {vs : List Value}, ss.all flat = true → LRel O w j ss vs → ∀ v ∈ vs, v.oneCell' = true
  | [], vs, _, h => by simp only [LRel] at h; subst h; simp
  | s :: ss, vs, hf, h => by
    simp only [LRel] at h
    obtain ⟨v, rest, rfl, h1, h2⟩ := h
    simp only [List.all_cons, Bool.and_eq_true] at hf
    intro u hu
    rcases List.mem_cons.1 hu with rfl | hu
    · exact flat_one hf.1 h1
    · exact LRel.ones hf.2 h2 u hu

/-! ### One operation -/
/-- The machine's computation m does, at the world w, what the shadow says. -/
def Sim (P : Program) (m : Sem Value) (j : JMap) (H : Heap) (w : World) (s : SV) (H' : Heap) : Prop :=
  ∃ v w' j', m.run P w = .ok v w' ∧ Rel j' H' w' ∧ VRel (OwnR j' H') w' j' s v ∧ Nx j H w j' H' w'
theorem Sim.same {m : Sem Value} {j : JMap} {H : Heap} {w : World} {s : SV} {v : Value} (r : Rel j H w) (h : m.run P w = .ok v w) (hv : VRel (OwnR j H) w j s v) : Sim P m j H w s H :=
  ⟨v, w, j, h, r, hv, Nx.refl _ _ _⟩

theorem Addr.add_add (a : Addr) (m n : Nat) : (a.add m).add n = a.add (m + n) := by
  unfold Go.Addr.add
  by_cases hm : m = 0 <;> by_cases hn : n = 0 <;> simp [hm, hn, Nat.add_assoc]

/-- Cells as a load finds them, at an address. -/
def AtMem (O : Nat → Prop) (w : World) (j : JMap) (cs : List SV) (a : Addr) : Prop :=
  ∀ i s, cs[i]? = some s → a.spot = none ∧ ∃ v, w.cell? ⟨a.block, a.off + i, none⟩ = some v ∧ VRel O w j s v

def pick (P : Program) (t : TypeId) (cs : List SV) (off : Nat) : Option SV :=
  match aggOf P t with
  | some true => match szOf P t with
    | some n => if off + n ≤ cs.length then some (.agg ((cs.drop off).take n)) else none
    | none => none
  | some false => cs[off]?
  | none => none

theorem pick_run {O : Nat → Prop} {w : World} {j : JMap} {t : TypeId} {cs : List SV} {off : Nat} {a : Addr} {s : SV} (hp : pick P t cs off = some s) (hm : AtMem O w j cs a) :
    ∃ v, (loadVar t (a.add off)).run P w = .ok v w ∧ VRel O w j s v := by
  unfold pick at hp
  split at hp
  · rename_i hagg
    split at hp
    · rename_i n hn
      split at hp
      · rename_i hle
        simp at hp; subst hp
        by_cases h0 : n = 0
        · subst h0
          refine ⟨.agg #[], by simp [loadVar, aggOf_run hagg, szOf_run hn, loadCells, loadCellsFrom], ?_⟩
          simp only [VRel]
          exact ⟨[], rfl, by simp only [List.take_zero, LRel]⟩
        · have hspot : a.spot = none := (hm off _ (by rw [List.getElem?_eq_getElem (by omega)])).1
          obtain ⟨ab, ao, sp⟩ := a
          simp at hspot; subst hspot
          obtain ⟨vs, h1, h2, h3⟩ := mem_list (O := O) (w := w) (j := j) ((cs.drop off).take n) ab (ao + off) (fun i s' hi => by
            have hi' : cs[off + i]? = some s' := by
              rw [List.getElem?_take] at hi
              split at hi
              · simpa [List.getElem?_drop] using hi
              · simp at hi
            obtain ⟨_, v, g1, g2⟩ := hm _ _ hi'
            exact ⟨v, by simpa [Nat.add_assoc] using g1, g2⟩)
          have hl : vs.length = n := by simp [h1]; omega
          have hrun := run_loadCells_list (P := P) w (⟨ab, ao + off, none⟩ : Addr) vs (fun i v hi => by
            rw [Addr.add_lit]; exact h2 i v hi)
          refine ⟨.agg vs.toArray, ?_, by simp only [VRel]; exact ⟨vs, rfl, h3⟩⟩
          rw [hl] at hrun
          simp [loadVar, aggOf_run hagg, szOf_run hn, Addr.add_lit, hrun]
      · simp at hp
    · simp at hp
  · rename_i hagg
    obtain ⟨hs, v, h1, h2⟩ := hm off s hp
    obtain ⟨ab, ao, sp⟩ := a
    simp at hs; subst hs
    exact ⟨v, by simp [loadVar, aggOf_run hagg, Addr.add_lit, h1], h2⟩
  · simp at hp

theorem atMem_row {O : Nat → Prop} {w : World} {j : JMap} {cs : List SV} {a : Addr} (h : CRel O w cs a) : AtMem O w j cs a := by
  intro i s hi
  obtain ⟨v, h1, _, h3, h4⟩ := h.get hi
  exact ⟨h1, v, h3, h4.of_noj⟩
theorem atMem_own {j : JMap} {H : Heap} {w : World} (r : Rel j H w) {b : Nat} {blk : Blk} (hb : H.map b = some blk) {rb base : Nat} (hj : j b = some (rb, base)) : AtMem (OwnR j H) w j blk.cells ⟨rb, base, none⟩ :=
  fun _ _ hi => ⟨rfl, own_cells r hb hj hi⟩

def sload (P : Program) (H : Heap) (t : TypeId) : SV → Option SV
  | .rptr cs off => pick P t cs off
  | .optr b off => match H.map b with
    | some blk => pick P t blk.cells off
    | none => none
  | _ => none

theorem sload_var {j : JMap} {H : Heap} {w : World} {t : TypeId} {x s : SV} {v : Value} (h : sload P H t x = some s) (r : Rel j H w) (hx : VRel (OwnR j H) w j x v) :
    ∃ a u, v = .pointer (some a) ∧ (loadVar t a).run P w = .ok u w ∧ VRel (OwnR j H) w j s u := by
  cases x with
  | rptr cs off =>
    simp only [VRel] at hx
    obtain ⟨a, rfl, hc⟩ := hx
    obtain ⟨u, h1, h2⟩ := pick_run (w := w) (j := j) (a := a) h (atMem_row hc)
    exact ⟨_, u, rfl, h1, h2⟩
  | optr b off =>
    simp only [sload] at h
    split at h
    · rename_i blk hb
      simp only [VRel] at hx
      obtain ⟨rb, base, hj, rfl⟩ := hx
      obtain ⟨u, h1, h2⟩ := pick_run (w := w) (j := j) (a := ⟨rb, base, none⟩) h (atMem_own r hb hj)
      rw [Addr.add_lit] at h1
      exact ⟨_, u, rfl, h1, h2⟩
    · simp at h
  | _ => simp [sload] at h
theorem sload_sound {j : JMap} {H : Heap} {w : World} {t : TypeId} {x s : SV} {v : Value} (h : sload P H t x = some s) (r : Rel j H w) (hx : VRel (OwnR j H) w j x v) : Sim P (Instr.loadAt t v) j H w s H := by
  obtain ⟨a, u, rfl, h1, h2⟩ := sload_var h r hx
  exact Sim.same r (by simp [Instr.loadAt, Instr.sureAddr, h1]) h2

/-- A store: the heap after it. -/
def sstore (P : Program) (H : Heap) (t : TypeId) (a x : SV) : Option Heap :=
  match a with
  | .optr b off => match H.map b, cellsOf x with
    | some blk, some cs => if szOf P t = some cs.length ∧ cs.all flat = true ∧ off + cs.length ≤ blk.cells.length then some (H.set b (some ⟨splice blk.cells off cs, blk.ex⟩)) else none
    | _, _ => none
  | _ => none

theorem sstore_sound {j : JMap} {H H' : Heap} {w : World} {t : TypeId} {a x : SV} {va vx : Value} (h : sstore P H t a x = some H') (r : Rel j H w) (ha : VRel (OwnR j H) w j a va) (hx : VRel (OwnR j H) w j x vx) :
    ∃ w', (Instr.storeAt t va vx).run P w = .ok () w' ∧ Rel j H' w' ∧ Nx j H w j H' w' := by
  cases a with
  | optr b off =>
    simp only [sstore] at h
    split at h
    · rename_i blk cs hb hc
      split at h
      · rename_i hcond
        obtain ⟨h1, h2, h3⟩ := hcond
        simp at h; subst h
        simp only [VRel] at ha
        obtain ⟨rb, base, hj, rfl⟩ := ha
        have hl := cells_rel hc hx
        obtain ⟨g1, g2, g3, g4⟩ := setCells_rel cs vx.cells.toList r hb hj off h3 hl
        have hlen := hl.length
        have hst := run_storeCells_cells (P := P) rb (base + off) vx.cells.toList 0 w (by simpa using g1) (by simpa using g2) (LRel.ones h2 hl)
        refine ⟨_, ?_, g3, g4⟩
        have hsz : vx.cells.size = cs.length := by simpa using hlen
        simp [Instr.storeAt, Instr.sureAddr, storeVar, szOf_run h1, hsz]
        simpa using hst
      · simp at h
    · simp at h
  | _ => simp [sstore] at h

/-! ### Addresses -/
def sindexAddr (P : Program) (t : TypeId) (x i : SV) : Option SV :=
  match i with
  | .val (.int _ i) => match elemOfSlice P t with
    | some e => match szOf P e with
      | some z => match x with
        | .row n _ cs => if 0 ≤ i ∧ i < n then some (.rptr cs (i.toNat * z)) else none
        | .own b off n _ _ _ => if 0 ≤ i ∧ i < n then some (.optr b (off + i.toNat * z)) else none
        | _ => none
      | none => none
    | none => match arrayOf P t with
      | some (n, e) => match szOf P e with
        | some z => match x with
          | .rptr cs off => if 0 ≤ i ∧ i < n then some (.rptr cs (off + i.toNat * z)) else none
          | .optr b off => if 0 ≤ i ∧ i < n then some (.optr b (off + i.toNat * z)) else none
          | _ => none
        | none => none
      | none => none
  | _ => none

theorem arrayOf_under {t e : TypeId} {n : Nat} (h : arrayOf P t = some (n, e)) : P.underlying t = some (.array n e) := by
  unfold arrayOf at h
  split at h
  · rename_i n' e' hu; simp at h; obtain ⟨rfl, rfl⟩ := h; exact hu
  · simp at h

theorem sindexAddr_sound {j : JMap} {H : Heap} {w : World} {t : TypeId} {x i s : SV} {vx vi : Value} (h : sindexAddr P t x i = some s) (r : Rel j H w) (hx : VRel (OwnR j H) w j x vx) (hi : VRel (OwnR j H) w j i vi) :
    Sim P (Instr.indexAt t vx vi) j H w s H := by
  unfold sindexAddr at h
  split at h
  · rename_i k i
    simp only [VRel] at hi; subst hi
    split at h
    · rename_i e he
      have hu := elemOf_under he
      split at h
      · rename_i z hz
        split at h
        · rename_i n ex cs
          split at h
          · rename_i hb
            simp at h; subst h
            simp only [VRel] at hx
            obtain ⟨a0, cap, rfl, h1, h2, hc⟩ := hx
            have hc' : ∃ a, a0 = some a ∧ CRel (OwnR j H) w cs a := hc.resolve_left (fun hn => by omega)
            obtain ⟨a, rfl, hc2⟩ := hc'
            refine Sim.same r (v := .pointer (some (a.add (i.toNat * z)))) ?_ (by simp only [VRel]; exact ⟨a, rfl, hc2⟩)
            simp [Instr.indexAt, asIntOf, run_underlying hu, hb.1, hb.2, szOf_run hz]
          · simp at h
        · rename_i b off n cap sz ex
          split at h
          · rename_i hb
            simp at h; subst h
            simp only [VRel] at hx
            obtain ⟨rb, base, a, cap', c, e', fr, g1, rfl, g3, g4, g5, g6, g7, g8⟩ := hx
            have ha : a = ⟨rb, base + off, none⟩ := g6.resolve_left (by omega)
            subst ha
            refine Sim.same r (v := .pointer (some ⟨rb, base + (off + i.toNat * z), none⟩)) ?_ (by simp only [VRel]; exact ⟨rb, base, g1, rfl⟩)
            simp [Instr.indexAt, asIntOf, run_underlying hu, hb.1, hb.2, szOf_run hz, Addr.add_lit, Nat.add_assoc]
          · simp at h
        · simp at h
      · simp at h
    · split at h
      · rename_i n e he
        have hu := arrayOf_under he
        split at h
        · rename_i z hz
          split at h
          · rename_i cs off
            split at h
            · rename_i hb
              simp at h; subst h
              simp only [VRel] at hx
              obtain ⟨a, rfl, hc⟩ := hx
              refine Sim.same r (v := .pointer (some (a.add (off + i.toNat * z)))) ?_ (by simp only [VRel]; exact ⟨a, rfl, hc⟩)
              simp [Instr.indexAt, asIntOf, run_underlying hu, Instr.sureAddr, hb.1, hb.2, szOf_run hz, Addr.add_add]
            · simp at h
          · rename_i b off
            split at h
            · rename_i hb
              simp at h; subst h
              simp only [VRel] at hx
              obtain ⟨rb, base, g1, rfl⟩ := hx
              refine Sim.same r (v := .pointer (some ⟨rb, base + (off + i.toNat * z), none⟩)) ?_ (by simp only [VRel]; exact ⟨rb, base, g1, rfl⟩)
              simp [Instr.indexAt, asIntOf, run_underlying hu, Instr.sureAddr, hb.1, hb.2, szOf_run hz, Addr.add_lit, Nat.add_assoc]
            · simp at h
          · simp at h
        · simp at h
      · simp at h
  · simp at h

def sfieldAddr (P : Program) (t : TypeId) (f : Nat) (x : SV) : Option SV :=
  match fieldOf P t f with
  | some (ft, fo) => match szOf P ft with
    | some (_ + 1) => match x with
      | .rptr cs off => some (.rptr cs (off + fo))
      | .optr b off => some (.optr b (off + fo))
      | _ => none
    | _ => none
  | none => none

theorem fieldOf_under {t ft : TypeId} {f fo : Nat} (h : fieldOf P t f = some (ft, fo)) : ∃ fs d, P.underlying t = some (.struct fs) ∧ fs[f]? = some d ∧ d.type = ft ∧ d.offset = fo := by
  unfold fieldOf at h
  split at h
  · rename_i fs hu
    cases hd : fs[f]? with
    | none => simp [hd] at h
    | some d => simp [hd] at h; exact ⟨fs, d, hu, hd, h.1, h.2⟩
  · simp at h

theorem sfieldAddr_sound {j : JMap} {H : Heap} {w : World} {t : TypeId} {f : Nat} {x s : SV} {vx : Value} (h : sfieldAddr P t f x = some s) (r : Rel j H w) (hx : VRel (OwnR j H) w j x vx) :
    Sim P (Instr.fieldAt t vx f) j H w s H := by
  unfold sfieldAddr at h
  split at h
  · rename_i ft fo hf
    obtain ⟨fs, d, hu, hd, rfl, rfl⟩ := fieldOf_under hf
    split at h
    · rename_i z hz
      split at h
      · rename_i cs off
        simp at h; subst h
        simp only [VRel] at hx
        obtain ⟨a, rfl, hc⟩ := hx
        refine Sim.same r (v := .pointer (some (a.add (off + d.offset)))) ?_ (by simp only [VRel]; exact ⟨a, rfl, hc⟩)
        simp [Instr.fieldAt, run_underlying hu, hd, Instr.sureAddr, fieldPlace, szOf_run hz, Addr.add_add]
      · rename_i b off
        simp at h; subst h
        simp only [VRel] at hx
        obtain ⟨rb, base, g1, rfl⟩ := hx
        refine Sim.same r (v := .pointer (some ⟨rb, base + (off + d.offset), none⟩)) ?_ (by simp only [VRel]; exact ⟨rb, base, g1, rfl⟩)
        simp [Instr.fieldAt, run_underlying hu, hd, Instr.sureAddr, fieldPlace, szOf_run hz, Addr.add_lit, Nat.add_assoc]
      · simp at h
    · simp at h
  · simp at h

/-- Part of a struct or an array that is a value. -/
def spart (P : Program) (t : TypeId) (off : Nat) : SV → Option SV
  | .agg cs => pick P t cs off
  | _ => none
theorem spart_run {O : Nat → Prop} {w : World} {j : JMap} {t : TypeId} {off : Nat} {x s : SV} {vx : Value} (h : spart P t off x = some s) (hx : VRel O w j x vx) :
    ∃ cs v, vx = .agg cs ∧ (part t cs off).run P w = .ok v w ∧ VRel O w j s v := by
  cases x with
  | agg cs =>
    simp only [VRel] at hx
    obtain ⟨vs, rfl, hl⟩ := hx
    simp only [spart, pick] at h
    split at h
    · rename_i hagg
      split at h
      · rename_i n hn
        split at h
        · rename_i hle
          simp at h; subst h
          refine ⟨vs.toArray, .agg (vs.toArray.extract off (off + n)), rfl, by simp [part, aggOf_run hagg, szOf_run hn], ?_⟩
          simp only [VRel]
          refine ⟨(vs.drop off).take n, by simp, LRel.mk (by simp [hl.length]) (fun i s v hi hv => ?_)⟩
          have h1 : cs[off + i]? = some s := by
            rw [List.getElem?_take] at hi
            split at hi
            · simpa [List.getElem?_drop] using hi
            · simp at hi
          have h2 : vs[off + i]? = some v := by
            rw [List.getElem?_take] at hv
            split at hv
            · simpa [List.getElem?_drop] using hv
            · simp at hv
          obtain ⟨u, g1, g2⟩ := hl.get h1
          rw [h2] at g1; simp at g1; subst g1; exact g2
        · simp at h
      · simp at h
    · rename_i hagg
      obtain ⟨v, g1, g2⟩ := hl.get h
      exact ⟨vs.toArray, v, rfl, by simp [part, aggOf_run hagg, g1], g2⟩
    · simp at h
  | _ => simp [spart] at h

def sfield (P : Program) (t : TypeId) (f : Nat) (x : SV) : Option SV :=
  match fieldOf P t f with
  | some (ft, fo) => spart P ft fo x
  | none => none
theorem sfield_sound {j : JMap} {H : Heap} {w : World} {t : TypeId} {f : Nat} {x s : SV} {vx : Value} (h : sfield P t f x = some s) (r : Rel j H w) (hx : VRel (OwnR j H) w j x vx) :
    Sim P (Instr.field t vx f) j H w s H := by
  unfold sfield at h
  split at h
  · rename_i ft fo hf
    obtain ⟨fs, d, hu, hd, rfl, rfl⟩ := fieldOf_under hf
    obtain ⟨cs, v, rfl, h1, h2⟩ := spart_run h hx
    exact Sim.same r (by simp [Instr.field, run_underlying hu, hd, asAgg, h1]) h2
  · simp at h

/-- An element of an array that is a value; a byte of a string. -/
def sindex (P : Program) (t : TypeId) (x i : SV) : Option SV :=
  match i with
  | .val (.int _ i) => match arrayOf P t with
    | some (n, e) => match szOf P e with
      | some z => if 0 ≤ i ∧ i < n then spart P e (i.toNat * z) x else none
      | none => none
    | none => match P.underlying t, x with
      | some .string, .val (.string s) => if h : 0 ≤ i ∧ i.toNat < s.size then some (.val (.int .u8 (s[i.toNat]'h.2).toNat)) else none
      | _, _ => none
  | _ => none
theorem sindex_sound {j : JMap} {H : Heap} {w : World} {t : TypeId} {x i s : SV} {vx vi : Value} (h : sindex P t x i = some s) (r : Rel j H w) (hx : VRel (OwnR j H) w j x vx) (hi : VRel (OwnR j H) w j i vi) :
    Sim P (Instr.index t vx vi) j H w s H := by
  unfold sindex at h
  split at h
  · rename_i k i
    simp only [VRel] at hi; subst hi
    split at h
    · rename_i n e he
      have hu := arrayOf_under he
      split at h
      · rename_i z hz
        split at h
        · rename_i hb
          obtain ⟨cs, v, rfl, h1, h2⟩ := spart_run h hx
          exact Sim.same r (by simp [Instr.index, asIntOf, run_underlying hu, hb.1, hb.2, szOf_run hz, h1]) h2
        · simp at h
      · simp at h
    · split at h
      · rename_i _ s' hu
        split at h
        · rename_i hb
          simp only [VRel] at hx; subst hx
          simp at h; subst h
          refine Sim.same r (v := .int .u8 (s'[i.toNat]'hb.2).toNat) ?_ (by simp only [VRel])
          simp [Instr.index, asIntOf, run_underlying hu, hb.1, hb.2]
        · simp at h
      · simp at h
  · simp at h
end Go.Sh
