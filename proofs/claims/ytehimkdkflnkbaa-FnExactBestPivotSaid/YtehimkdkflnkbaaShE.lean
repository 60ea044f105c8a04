/-
  The operations, further: literals, append, copy.
-/
import Derived.Test.YtehimkdkflnkbaaShD
import Derived.Deep.Upon
namespace Go.Sh
set_option linter.unusedSimpArgs false
set_option linter.unusedVariables false
open Go Go.RowKit
variable {P : Program}

theorem LRel.set {O : Nat → Prop} {w : World} {j : JMap} {s : SV} {v : Value} (hv : VRel O w j s v) : ∀ {ss : List SV} {vs : List Value} (i : Nat), LRel O w j ss vs → LRel O w j (ss.set i s) (vs.set i v)
  | [], vs, i, h => by simp only [LRel] at h; subst h; simp [LRel]
  | t :: ss, vs, 0, h => by
    simp only [LRel] at h
    obtain ⟨u, rest, rfl, _, h2⟩ := h
    simp only [List.set_cons_zero, LRel]
    exact ⟨v, rest, rfl, hv, h2⟩
  | t :: ss, vs, i + 1, h => by
    simp only [LRel] at h
    obtain ⟨u, rest, rfl, h1, h2⟩ := h
    simp only [List.set_cons_succ, LRel]
    exact ⟨u, rest.set i v, rfl, h1, LRel.set hv i h2⟩

theorem fold_splice {O : Nat → Prop} {w : World} {j : JMap} (off : Nat) : ∀ (cs : List SV) (vs : List Value) (l : List SV) (arr : Array Value) (k : Nat), LRel O w j cs vs → LRel O w j l arr.toList →
    LRel O w j (splice l (off + k) cs) ((vs.zipIdx k).foldl (fun (a : Array Value) (p : Value × Nat) => a.setIfInBounds (off + p.2) p.1) arr).toList
  | [], vs, l, arr, k, h, hl => by simp only [LRel] at h; subst h; simpa [splice] using hl
  | c :: cs, vs, l, arr, k, h, hl => by
    simp only [LRel] at h
    obtain ⟨v, rest, rfl, h1, h2⟩ := h
    have := fold_splice off cs rest (l.set (off + k) c) (arr.setIfInBounds (off + k) v) (k + 1) h2 (by rw [Array.toList_setIfInBounds]; exact LRel.set h1 _ hl)
    simpa [splice, List.zipIdx_cons, Nat.add_assoc] using this

/-! ### Literals -/
def fieldPl (P : Program) (t : TypeId) (i : Nat) : Option (Nat × Nat) :=
  match P.underlying t with
  | some (.struct fs) => (fs[i]?).bind fun d => (szOf P d.type).map fun z => (d.offset, z)
  | some (.array _ e) => (szOf P e).map fun z => (i * z, z)
  | _ => none
def buildOk (P : Program) (t : TypeId) : Bool :=
  match P.underlying t with
  | some (.struct fs) => fs.toList.all fun d => (szOf P d.type).isSome
  | some (.array _ e) => (szOf P e).isSome
  | _ => false

def sfill (place : Nat → Option (Nat × Nat)) (ρ : Operand → SV) (cells : List SV) : List (Nat × Operand) → Option (List SV)
  | [] => some cells
  | (i, x) :: rest => match place i, cellsOf (ρ x) with
    | some (off, size), some cs => if cs.length = size ∧ off + cs.length ≤ cells.length then sfill place ρ (splice cells off cs) rest else none
    | _, _ => none

theorem sfill_sound {O : Nat → Prop} {w : World} {j : JMap} {place : Nat → Option (Nat × Nat)} {ρ : Operand → SV} {ρr : Operand → Value} : ∀ (parts : List (Nat × Operand)) (cells : List SV) (arr : Array Value) (out : List SV),
    (∀ p ∈ parts, VRel O w j (ρ p.2) (ρr p.2)) → sfill place ρ cells parts = some out → LRel O w j cells arr.toList →
    ∃ a, Instr.fill place arr (parts.map fun p => (p.1, ρr p.2)) = some a ∧ LRel O w j out a.toList
  | [], cells, arr, out, _, h, hl => by simp [sfill] at h; subst h; exact ⟨arr, rfl, hl⟩
  | (i, x) :: rest, cells, arr, out, hp, h, hl => by
    simp only [sfill] at h
    split at h
    · rename_i off size cs hpl hc
      split at h
      · rename_i hcond
        have hx := hp (i, x) (by simp)
        have hcr := cells_rel hc hx
        have hlen : (ρr x).cells.size = cs.length := by simpa using hcr.length
        have hal : arr.size = cells.length := by simpa using hl.length
        have hf := fold_splice off cs (ρr x).cells.toList cells arr 0 hcr hl
        obtain ⟨a, h1, h2⟩ := sfill_sound rest _ _ out (fun p hpm => hp p (by simp [hpm])) h hf
        refine ⟨a, ?_, h2⟩
        have e1 : ¬ ((ρr x).cells.size ≠ size || decide (off + (ρr x).cells.size > arr.size)) = true := by
          simp only [ne_eq, Bool.or_eq_true, decide_eq_true_eq, not_or]
          exact ⟨by rw [hlen, hcond.1]; simp, by rw [hlen, hal]; omega⟩
        simp only [List.map_cons, Instr.fill, hpl]
        rw [if_neg (by simpa using e1)]
        rw [← h1]
        congr 1
        rw [← Array.foldl_toList, Array.toList_zipIdx]
      · simp at h
    · simp at h

def sbuild (P : Program) (t : TypeId) (ρ : Operand → SV) (parts : List (Nat × Operand)) : Option SV :=
  match zeroOf P t with
  | some zs => if buildOk P t = true then (match sfill (fieldPl P t) ρ zs parts with | some cs => some (.agg cs) | none => none) else none
  | none => none

theorem mapM_places (w : World) : ∀ (fs : List Field), (fs.all fun d => (szOf P d.type).isSome) = true →
    (fs.mapM (m := Sem) fun f => do pure (f.offset, ← sizeOf f.type)).run P w = .ok (fs.map fun d => (d.offset, (szOf P d.type).getD 0)) w
  | [], _ => by simp
  | f :: fs, h => by
    simp only [List.all_cons, Bool.and_eq_true] at h
    obtain ⟨z, hz⟩ := Option.isSome_iff_exists.1 h.1
    have ih := mapM_places w fs h.2
    simp only [List.mapM_cons, Sem.run_bind, szOf_run hz, Result.andThen_ok, Sem.run_pure, ih, List.map_cons, hz, Option.getD_some]

theorem sbuild_sound {j : JMap} {H : Heap} {w : World} {t : TypeId} {ρ : Operand → SV} {ρr : Operand → Value} {parts : Array (Nat × Operand)} {s : SV} (h : sbuild P t ρ parts.toList = some s) (r : Rel j H w)
    (hp : ∀ p ∈ parts.toList, VRel (OwnR j H) w j (ρ p.2) (ρr p.2)) : Sim P (Instr.build t (parts.map fun p => (p.1, ρr p.2))) j H w s H := by
  unfold sbuild at h
  split at h
  · rename_i zs hzs
    split at h
    · rename_i hok
      split at h
      · rename_i cs hcs
        simp at h; subst h
        obtain ⟨i, zv, hi, hzv, rfl⟩ := zeroOf_info hzs
        obtain ⟨a, h1, h2⟩ := sfill_sound (O := OwnR j H) (w := w) (j := j) (ρr := ρr) parts.toList _ zv.cells cs hp hcs (LRel.map_val _)
        refine Sim.same r (v := .agg a) ?_ (by simp only [VRel]; exact ⟨a.toList, by simp, h2⟩)
        have hzr : (zeroValue t).run P w = .ok zv w := by simp [zeroValue, typeInfo, hi, hzv]
        have hpl : (parts.map fun p => (p.1, ρr p.2)).toList = parts.toList.map fun p => (p.1, ρr p.2) := by simp
        unfold buildOk at hok
        split at hok
        · rename_i fs hu
          have hm := mapM_places (P := P) w fs.toList hok
          have hfun : (fun i => ((fs.toList.map fun d => (d.offset, (szOf P d.type).getD 0)).toArray)[i]?) = fieldPl P t := by
            funext i
            unfold fieldPl
            rw [hu]
            simp only [List.getElem?_toArray, List.getElem?_map, Array.getElem?_toList]
            cases hd : fs[i]? with
            | none => simp
            | some d =>
              simp only [Option.map_some, Option.bind_some]
              have hmem : d ∈ fs.toList := by
                rw [← Array.getElem?_toList] at hd
                exact List.mem_of_getElem? hd
              have := List.all_eq_true.1 hok d hmem
              obtain ⟨z, hz⟩ := Option.isSome_iff_exists.1 this
              simp [hz]
          simp only [Instr.build, Sem.run_bind, hzr, Result.andThen_ok, run_underlying hu]
          rw [Array.mapM_eq_mapM_toList]
          simp only [Sem.run_map, hm, Result.andThen_ok, hpl]
          rw [hfun, h1]
          simp
        · rename_i n e hu
          obtain ⟨z, hz⟩ := Option.isSome_iff_exists.1 hok
          have hfun : (fun i => some (i * z, z)) = fieldPl P t := by
            funext i
            unfold fieldPl
            rw [hu]
            simp [hz]
          simp only [Instr.build, Sem.run_bind, hzr, Result.andThen_ok, run_underlying hu, szOf_run hz, hpl]
          rw [hfun, h1]
          simp
        · simp at hok
      · simp at h
    · simp at h
  · simp at h

def sbuildSlice (P : Program) (H : Heap) (t : TypeId) (len : Nat) (ρ : Operand → SV) (parts : List (Nat × Operand)) : Option (SV × Heap) :=
  match elemOfSlice P t with
  | some e => match szOf P e, zeroOf P e with
    | some z, some zs => if len * z ≤ 16777216 then (match sfill (fun i => some (i * z, z)) ρ (rep zs (len * z)) parts with | some cs => some (.own H.nb 0 len len z false, H.push ⟨cs, false⟩) | none => none) else none
    | _, _ => none
  | none => none

theorem sfill_length {place : Nat → Option (Nat × Nat)} {ρ : Operand → SV} : ∀ (parts : List (Nat × Operand)) (cells out : List SV), sfill place ρ cells parts = some out → out.length = cells.length
  | [], cells, out, h => by simp [sfill] at h; rw [h]
  | (i, x) :: rest, cells, out, h => by
    simp only [sfill] at h
    split at h
    · split at h
      · rw [sfill_length rest _ out h, splice_length]
      · simp at h
    · simp at h

theorem sbuildSlice_sound {j : JMap} {H H' : Heap} {w : World} {t : TypeId} {len : Nat} {ρ : Operand → SV} {ρr : Operand → Value} {parts : Array (Nat × Operand)} {s : SV} (h : sbuildSlice P H t len ρ parts.toList = some (s, H')) (r : Rel j H w)
    (hp : ∀ p ∈ parts.toList, VRel (OwnR j H) w j (ρ p.2) (ρr p.2)) : Sim P (Instr.buildSlice t len (parts.map fun p => (p.1, ρr p.2))) j H w s H' := by
  unfold sbuildSlice at h
  split at h
  · rename_i e he
    have hu := elemOf_under he
    split at h
    · rename_i z zs hz hzs
      split at h
      · rename_i hle
        split at h
        · rename_i cs hcs
          simp at h
          obtain ⟨rfl, rfl⟩ := h
          obtain ⟨i, zv, hi, hzv, rfl⟩ := zeroOf_info hzs
          have hzr : (zeroValue e).run P w = .ok zv w := by simp [zeroValue, typeInfo, hi, hzv]
          have hinit : LRel (OwnR j H) w j (rep (zv.cells.toList.map SV.val) (len * z)) (madeCells zv.cells (len * z)).toList := by
            refine LRel.mk (by simp [rep, size_madeCells]) (fun i s v hs hv => ?_)
            simp only [rep, List.getElem?_map] at hs
            have hlt : i < len * z := by
              rcases Nat.lt_or_ge i (len * z) with h | h
              · exact h
              · simp [h] at hs
            simp [hlt] at hs
            have hv' : v = zv.cells[i % zv.cells.size]! := by
              have : (madeCells zv.cells (len * z))[i]? = some v := by simpa using hv
              simpa [madeCells, hlt] using this.symm
            subst hv'
            subst hs
            by_cases hm : i % zv.cells.size < zv.cells.size
            · simp [hm, VRel]
            · simp [List.getElem?_eq_none (Nat.le_of_not_lt hm), Array.getElem?_eq_none (Nat.le_of_not_lt hm), VRel]
          obtain ⟨a, h1, h2⟩ := sfill_sound (O := OwnR j H) (w := w) (j := j) (ρr := ρr) parts.toList _ (madeCells zv.cells (len * z)) cs hp hcs hinit
          have hlen := sfill_length _ _ _ hcs
          have hal : a.size = len * z := by
            have := h2.length
            simp [hlen, rep] at this
            exact this
          have hal' := alloc_rel r a e ⟨cs, false⟩ (by simp [hlen, rep, hal]) (by simp) (fun i s hi => by
            obtain ⟨u, g1, g2⟩ := h2.get hi
            exact ⟨u, by simpa using g1, g2⟩)
          have hpl : (parts.map fun p => (p.1, ρr p.2)).toList = parts.toList.map fun p => (p.1, ρr p.2) := by simp
          refine ⟨.slice (some ⟨w.heap.size, 0, none⟩) len len, _, _, ?_, hal'.1, ?_, hal'.2⟩
          · by_cases h0 : len * z = 0
            · have hm0 : madeCells zv.cells (len * z) = #[] := by rw [h0]; simp [madeCells, Array.range_zero']
              rw [hm0] at h1
              simp [Instr.buildSlice, run_underlying hu, szOf_run hz, h0, h1, newRow, Array.range_zero']
            · have n1 : ¬ (16777216 < len * z) := by omega
              simp only [madeCells] at h1
              simp [Instr.buildSlice, run_underlying hu, szOf_run hz, h0, n1, hzr, h1, newRow]
          · simp only [VRel]
            exact ⟨w.heap.size, 0, _, len, a, e, (0, 0), by simp [JMap.put], rfl, Nat.le_refl _, Nat.le_refl _, fun _ => rfl, .inr (by simp), heap_alloc_new w _, by omega⟩
        · simp at h
      · simp at h
    · simp at h
  · simp at h

/-! ### append, copy -/
/-- A slice's elements, as cells. -/
def sview (H : Heap) (z : Nat) : SV → Option (Nat × List SV)
  | .val (.slice none 0 0) => some (0, [])
  | .row n _ cs => if cs.length = n * z then some (n, cs) else none
  | .own b off n _ _ _ => match H.map b with
    | some blk => if off + n * z ≤ blk.cells.length then some (n, (blk.cells.drop off).take (n * z)) else none
    | none => none
  | _ => none

theorem sview_len {H : Heap} {z n : Nat} {x : SV} {cs : List SV} (h : sview H z x = some (n, cs)) : cs.length = n * z := by
  unfold sview at h
  split at h
  · simp at h; obtain ⟨rfl, rfl⟩ := h; simp
  · split at h
    · simp at h; obtain ⟨rfl, rfl⟩ := h; assumption
    · simp at h
  · split at h
    · split at h
      · simp at h; obtain ⟨rfl, rfl⟩ := h; simp; omega
      · simp at h
    · simp at h
  · simp at h

/-- The machine's own reading of a slice's first cells: the address, where there is one, and the list. -/
theorem sview_mem {j : JMap} {H : Heap} {w : World} {z n : Nat} {x : SV} {cs : List SV} {v : Value} (h : sview H z x = some (n, cs)) (r : Rel j H w) (hx : VRel (OwnR j H) w j x v) :
    ∃ base cap vs, v = .slice base n cap ∧ n ≤ cap ∧ LRel (OwnR j H) w j cs vs ∧ ((base = none ∧ n = 0 ∧ cap = 0) ∨ ∃ a, base = some a ∧ ∀ i u, vs[i]? = some u → w.cell? (a.add i) = some u) := by
  unfold sview at h
  split at h
  · simp at h; obtain ⟨rfl, rfl⟩ := h
    simp only [VRel] at hx; subst hx
    exact ⟨none, 0, [], rfl, Nat.le_refl _, by simp only [LRel], .inl ⟨rfl, rfl, rfl⟩⟩
  · rename_i n' ex cs'
    split at h
    · rename_i hl
      simp at h; obtain ⟨rfl, rfl⟩ := h
      simp only [VRel] at hx
      obtain ⟨a0, cap, rfl, g1, g2, g3⟩ := hx
      rcases g3 with ⟨rfl, rfl, rfl, rfl⟩ | ⟨a, rfl, g3⟩
      · exact ⟨none, 0, [], rfl, Nat.le_refl _, by simp only [LRel], .inl ⟨rfl, rfl, rfl⟩⟩
      cases cs' with
      | nil => exact ⟨some a, cap, [], rfl, g1, by simp only [LRel], .inr ⟨a, rfl, fun i u hi => by simp at hi⟩⟩
      | cons c cs' =>
        have hs : a.spot = none := by simp only [CRel] at g3; exact g3.1
        obtain ⟨ab, ao, sp⟩ := a
        simp at hs; subst hs
        obtain ⟨vs, k1, k2, k3⟩ := mem_list (O := OwnR j H) (w := w) (j := j) (c :: cs') ab ao (fun i s hi => by
          obtain ⟨u, _, _, q3, q4⟩ := g3.get hi
          exact ⟨u, q3, q4.of_noj⟩)
        exact ⟨_, cap, vs, rfl, g1, k3, .inr ⟨_, rfl, fun i u hi => by rw [Addr.add_lit]; exact k2 i u hi⟩⟩
    · simp at h
  · rename_i b off n' cap sz ex
    split at h
    · rename_i blk hb
      split at h
      · rename_i hl
        simp at h; obtain ⟨rfl, rfl⟩ := h
        simp only [VRel] at hx
        obtain ⟨rb, base, a, cap', c, e, fr, g1, rfl, g3, g4, g5, g6, g7, g8⟩ := hx
        by_cases hn : cap' = 0
        · have : n' = 0 := by omega
          subst this
          exact ⟨some a, cap', [], rfl, by omega, by simp only [Nat.zero_mul, List.take_zero, LRel], .inr ⟨a, rfl, fun i u hi => by simp at hi⟩⟩
        · have ha : a = ⟨rb, base + off, none⟩ := g6.resolve_left hn
          subst ha
          obtain ⟨vs, k1, k2, k3⟩ := mem_list (O := OwnR j H) (w := w) (j := j) ((blk.cells.drop off).take (n' * z)) rb (base + off) (fun i s hi => by
            rw [List.getElem?_take] at hi
            split at hi
            · obtain ⟨u, q1, q2⟩ := own_cells r hb g1 (i := off + i) (by simpa [List.getElem?_drop] using hi)
              exact ⟨u, by simpa [Nat.add_assoc] using q1, q2⟩
            · simp at hi)
          exact ⟨_, cap', vs, rfl, by omega, k3, .inr ⟨_, rfl, fun i u hi => by rw [Addr.add_lit]; exact k2 i u hi⟩⟩
      · simp at h
    · simp at h
  · simp at h

/-- A live block under another name, seen from another base. -/
theorem rename_rel {j : JMap} {H : Heap} {w : World} (r : Rel j H w) {b : Nat} {blk : Blk} (hb : H.map b = some blk) {rb base : Nat} (hj : j b = some (rb, base)) (base2 : Nat) (cs2 : List SV)
    (hc : ∀ c e fr, w.heap[rb]? = some (.cells c e fr) → base2 + cs2.length ≤ c.size ∧ ∀ i s, cs2[i]? = some s → ∃ v, c[base2 + i]? = some v ∧ VRel (OwnR j H) w j s v) :
    Rel (j.put H.nb (rb, base2)) ((H.set b none).push ⟨cs2, false⟩) w ∧ Nx j H w (j.put H.nb (rb, base2)) ((H.set b none).push ⟨cs2, false⟩) w := by
  have hjn : j H.nb = none := by
    cases hj' : j H.nb with
    | none => rfl
    | some p => exact absurd (r.dom _ _ hj') (Nat.lt_irrefl _)
  have hbn : b < H.nb := r.dom _ _ hj
  have hown : OwnR j H rb := ⟨b, blk, base, hb, hj⟩
  have hsub : ∀ k, OwnR (j.put H.nb (rb, base2)) ((H.set b none).push ⟨cs2, false⟩) k → OwnR j H k := by
    rintro k ⟨b', bk, bs, h1, h2⟩
    simp only [Heap.push, Heap.set] at h1
    unfold JMap.put at h2
    by_cases h : b' = H.nb
    · subst h; simp at h2; rw [← h2.1]; exact hown
    · simp [h] at h1 h2
      exact ⟨b', bk, bs, h1.2, h2⟩
  have nx : Nx j H w (j.put H.nb (rb, base2)) ((H.set b none).push ⟨cs2, false⟩) w :=
    ⟨rfl, rfl, rfl, Nat.le_refl _, fun _ _ _ => rfl, fun _ c e fr h => ⟨c, e, fr, h, rfl⟩, fun b' hb' => by unfold JMap.put; rw [if_neg (by omega)], by simp [Heap.push, Heap.set], fun k h => .inl (hsub k h)⟩
  have hj' := nx.jmono r
  refine ⟨⟨?_, ?_, ?_⟩, nx⟩
  · intro b' p hp
    unfold JMap.put at hp
    by_cases h : b' = H.nb
    · subst h; simp [Heap.push, Heap.set]
    · simp [h] at hp; have := r.dom _ _ hp; simp [Heap.push, Heap.set]; omega
  · intro b' bk hbk
    simp only [Heap.push, Heap.set] at hbk
    by_cases h : b' = H.nb
    · subst h
      simp at hbk; subst hbk
      obtain ⟨rb', base', k1, c, e, lo, hi, k2, k3, k4, k5, k6⟩ := r.live b blk hb
      rw [hj] at k1
      obtain ⟨rfl, rfl⟩ := (by simpa using k1 : rb = rb' ∧ base = base')
      obtain ⟨q1, q2⟩ := hc c e (lo, hi) k2
      refine ⟨rb, base2, by simp [JMap.put], c, e, lo, hi, k2, k3, q1, by simp, fun i s hi => ?_⟩
      obtain ⟨v, p1, p2⟩ := q2 i s hi
      exact ⟨v, p1, p2.nx r nx⟩
    · simp [h] at hbk
      obtain ⟨rb', base', k1, k2⟩ := r.live b' bk hbk.2
      exact ⟨rb', base', hj' _ _ k1, k2.tr nx.tr hj' rfl⟩
  · intro b1 b2 k1 k2 rb1 ba1 ba2 h1 h2 h3 h4
    simp only [Heap.push, Heap.set] at h1 h2
    unfold JMap.put at h3 h4
    by_cases g1 : b1 = H.nb <;> by_cases g2 : b2 = H.nb
    · omega
    · subst g1
      simp at h3
      simp [g2] at h2 h4
      obtain ⟨rfl, rfl⟩ := h3
      exact absurd (r.inj _ _ _ _ _ _ _ h2.2 hb h4 hj) h2.1
    · subst g2
      simp at h4
      simp [g1] at h1 h3
      obtain ⟨rfl, rfl⟩ := h4
      exact absurd (r.inj _ _ _ _ _ _ _ h1.2 hb h3 hj) h1.1
    · simp [g1, g2] at h1 h2 h3 h4
      exact r.inj _ _ _ _ _ _ _ h1.2 h2.2 h3 h4

def isStr (P : Program) (t : TypeId) : Bool := match P.underlying t with | some .string => true | _ => false
theorem isStr_under {t : TypeId} (h : isStr P t = true) : P.underlying t = some .string := by
  unfold isStr at h
  split at h
  · assumption
  · simp at h
/-- What is appended: a slice's elements, or a string's bytes. -/
def ssrc (P : Program) (H : Heap) (z : Nat) (tx : TypeId) (x : SV) : Option (Nat × List SV) :=
  match elemOfSlice P tx with
  | some _ => sview H z x
  | none => if isStr P tx = true then (match x with
    | .val (.string s) => if z = 1 then some (s.size, (byteCells s).map .val) else none
    | _ => none) else none

def sappend (P : Program) (H : Heap) (argTypes : List TypeId) (s x : SV) : Option (SV × Heap) :=
  match argTypes with
  | t :: tx :: [] => match elemOfSlice P t with
    | some e => match szOf P e, bytesIn P e, zeroOf P e with
      | some z, some by_, some zs => match sview H z s, ssrc P H z tx x with
        | some (n, old), some (m, new) =>
          if new.all flat = true ∧ zs.length = z then
            if m = 0 then some (s, H)
            else if (n + m) * by_ ≤ 140737488355328 ∧ n + m ≤ 9223372036854775807 then
              match s with
              | .val _ => some (.own H.nb 0 (n + m) (n + m) z false, H.push ⟨old ++ new, false⟩)
              | .row _ true _ => some (.own H.nb 0 (n + m) (n + m) z false, H.push ⟨old ++ new, false⟩)
              | .own b off n cap sz ex =>
                if sz = z then
                  if n + m ≤ cap then match H.map b with
                    | some blk => if off + (n + m) * z ≤ blk.cells.length then some (.own b off (n + m) cap z ex, H.set b (some ⟨splice blk.cells (off + n * z) new, blk.ex⟩)) else none
                    | none => none
                  else if ex = true then some (.own H.nb 0 (n + m) (n + m) z false, H.push ⟨old ++ new, false⟩)
                  else some (.own H.nb 0 (n + m) (n + m) z false, (H.set b none).push ⟨old ++ new, false⟩)
                else none
              | _ => none
            else none
          else none
        | _, _ => none
      | _, _, _ => none
    | none => none
  | _ => none

theorem ssrc_src {j : JMap} {H : Heap} {w : World} {z m : Nat} {tx : TypeId} {x : SV} {cs : List SV} {v : Value} (h : ssrc P H z tx x = some (m, cs)) (r : Rel j H w) (hx : VRel (OwnR j H) w j x v) (hf : cs.all flat = true) :
    ∃ news, Src P z tx v m news w ∧ LRel (OwnR j H) w j cs news := by
  unfold ssrc at h
  split at h
  · rename_i e' he
    have hu := elemOf_under he
    have hl := sview_len h
    obtain ⟨base, cap, vs, rfl, g1, g2, g3⟩ := sview_mem h r hx
    have hlen : vs.length = m * z := by rw [g2.length, hl]
    rcases g3 with ⟨rfl, rfl, rfl⟩ | ⟨a, rfl, g3⟩
    · have : vs = [] := by simpa using hlen
      subst this
      exact ⟨[], Src.ofNil w hu 0, g2⟩
    · exact ⟨vs, Src.ofSlice w hu a m cap vs hlen g3 (LRel.ones hf g2), g2⟩
  · split at h
    · rename_i hs
      have hu := isStr_under hs
      split at h
      · rename_i s
        split at h
        · rename_i hz
          subst hz
          simp at h; obtain ⟨rfl, rfl⟩ := h
          simp only [VRel] at hx; subst hx
          exact ⟨byteCells s, Src.ofString w hu s, LRel.map_val _⟩
        · simp at h
      · simp at h
    · simp at h

/-- A new row behind a draw: an append that did not fit. -/
theorem grow_sim {j : JMap} {H : Heap} {w : World} (r : Rel j H w) {e : TypeId} {olds news : List Value} {cs : List SV} (rest : Array Value) (n z cap : Nat) (hl : LRel (OwnR j H) w j cs (olds ++ news)) (hn : cs.length = n * z)
    (hcap : n ≤ cap) (hrest : cap * z ≤ ((olds ++ news).toArray ++ rest).size) {m : Sem Value}
    (hrun : m.run P w = .ok (.slice (some ⟨w.heap.size, 0, none⟩) n cap) (w.drew.alloc (.cells ((olds ++ news).toArray ++ rest) e))) :
    Sim P m j H w (.own H.nb 0 n n z false) (H.push ⟨cs, false⟩) := by
  have rd := r.drew
  have hl' : LRel (OwnR j H) w.drew j cs (olds ++ news) := hl.nx r (Nx.drew j H w)
  have hlen := hl.length
  have hal := alloc_rel rd ((olds ++ news).toArray ++ rest) e ⟨cs, false⟩ (by simp at hlen ⊢; omega) (by simp) (fun i s hi => by
    obtain ⟨u, g1, g2⟩ := hl'.get hi
    refine ⟨u, ?_, g2⟩
    have hlt : i < (olds ++ news).length := by
      rcases Nat.lt_or_ge i (olds ++ news).length with h | h
      · exact h
      · rw [List.getElem?_eq_none h] at g1; simp at g1
    rw [Array.getElem?_append_left (by simpa using hlt)]
    simpa using g1)
  refine ⟨_, _, _, hrun, hal.1, ?_, (Nx.drew j H w).trans hal.2⟩
  simp only [VRel]
  exact ⟨w.heap.size, 0, _, cap, _, e, (0, 0), by simp [JMap.put], rfl, Nat.le_refl _, hcap, by simp, .inr (by simp), heap_alloc_new w.drew _, by simpa using hrest⟩

theorem splice_over : ∀ (new pre mid post : List SV), mid.length = new.length → splice (pre ++ mid ++ post) pre.length new = pre ++ new ++ post
  | [], pre, mid, post, h => by
    have : mid = [] := by simpa using h
    subst this; simp [splice]
  | c :: new, pre, [], post, h => by simp at h
  | c :: new, pre, m :: mid, post, h => by
    have := splice_over new (pre ++ [c]) mid post (by simpa using h)
    simp only [splice]
    rw [show (pre ++ (m :: mid) ++ post).set pre.length c = (pre ++ [c]) ++ mid ++ post by simp]
    simpa using this

theorem sappend_sound {j : JMap} {H H' : Heap} {w : World} {ats : List TypeId} {ty : TypeId} {s x s' : SV} {vs vx : Value} (h : sappend P H ats s x = some (s', H')) (r : Rel j H w) (hs : VRel (OwnR j H) w j s vs) (hx : VRel (OwnR j H) w j x vx) :
    Sim P (Builtin.append_ ats.toArray ty #[vs, vx]) j H w s' H' := by
  unfold sappend at h
  split at h
  · rename_i t tx
    split at h
    · rename_i e he
      have hu := elemOf_under he
      split at h
      · rename_i z by_ zs hz hby hzs
        obtain ⟨i, zv, hi, hzv, hzs'⟩ := zeroOf_info hzs
        have e1 : i.size = z := by simpa [szOf, hi] using hz
        have e2 : i.bytes = by_ := by simpa [bytesIn, hi] using hby
        subst e1 e2
        split at h
        · rename_i n old m new hvs hsrc
          split at h
          · rename_i hfl
            obtain ⟨hflat, hzl⟩ := hfl
            have hzc : zv.cells.size = i.size := by rw [← hzl, hzs']; simp
            obtain ⟨base, cap, olds, rfl, g1, g2, g3⟩ := sview_mem hvs r hs
            obtain ⟨news, k1, k2⟩ := ssrc_src hsrc r hx hflat
            have hold : old.length = n * i.size := sview_len hvs
            have holds : olds.length = n * i.size := by rw [g2.length, hold]
            have hnew : new.length = m * i.size := by rw [← k2.length, k1.newsLen]
            have holdrun : (Builtin.firstCells i.size n (.slice base n cap)).run P w.drew = .ok olds.toArray w.drew := by
              rcases g3 with ⟨rfl, rfl, rfl⟩ | ⟨a, rfl, g3⟩
              · have : olds = [] := by simpa using holds
                subst this
                exact run_firstCells_none w.drew _ _ _ _
              · exact run_firstCells_some w.drew i.size n a n cap olds holds (by simpa using g3)
            split at h
            · rename_i hm
              subst hm
              simp at h; obtain ⟨rfl, rfl⟩ := h
              have : news = [] := by
                have := k1.newsLen
                simpa using this
              subst this
              exact Sim.same r (run_append_nothing w t tx ty e i hu hi base n cap g1 vx k1) hs
            · rename_i hm
              split at h
              · rename_i hfit
                have grow : cap < n + m → Sim P (Builtin.append_ #[t, tx] ty #[.slice base n cap, vx]) j H w (.own H.nb 0 (n + m) (n + m) i.size false) (H.push ⟨old ++ new, false⟩) := by
                  intro hlt
                  have hrun := run_append_grow_src w t tx ty e i zv hu hi hzv base n cap olds holdrun vx m news k1 hlt (by omega) (growslice_fits hlt hfit.1)
                  have hgc : n + m ≤ grownCap w (n + m) cap e := by unfold grownCap Question.cut; simp
                  refine grow_sim r _ (n + m) i.size (grownCap w (n + m) cap e) (g2.append k2) (by simp [hold, hnew, Nat.add_mul]) hgc ?_ hrun
                  have e3 : grownCap w (n + m) cap e * i.size = (n + m) * i.size + (grownCap w (n + m) cap e - (n + m)) * i.size := by
                    rw [← Nat.add_mul]; congr 1; omega
                  simp [Builtin.zeroCells, holds, k1.newsLen, hzc]
                  rw [e3, Nat.add_mul]
                  omega
                split at h
                · -- nil
                  rename_i v hv
                  simp at h; obtain ⟨rfl, rfl⟩ := h
                  refine grow ?_
                  simp only [VRel] at hs
                  subst hs
                  unfold sview at hvs
                  split at hvs
                  · rename_i heq; simp at heq; obtain ⟨rfl, rfl, rfl⟩ := heq; simp at hvs; omega
                  · simp at *
                  · simp at *
                  · simp at hvs
                · -- a row whose room is known
                  rename_i n' cs'
                  simp at h; obtain ⟨rfl, rfl⟩ := h
                  refine grow ?_
                  simp only [VRel] at hs
                  obtain ⟨a', cap', e4, q1, q2, _⟩ := hs
                  simp at e4
                  obtain ⟨_, rfl, rfl⟩ := e4
                  have := q2 trivial
                  omega
                · rename_i b off n' cap0 sz ex
                  have hs0 := hs
                  simp only [VRel] at hs
                  obtain ⟨rb, bs, a, cap', c, e', fr, q1, e4, q3, q4, q5, q6, q7, q8⟩ := hs
                  simp at e4
                  obtain ⟨rfl, rfl, rfl⟩ := e4
                  split at h
                  · rename_i hsz
                    subst hsz
                    split at h
                    · -- within the known room
                      rename_i hroom
                      split at h
                      · rename_i blk hb
                        split at h
                        · rename_i hin
                          simp at h; obtain ⟨rfl, rfl⟩ := h
                          have hc0 : cap ≠ 0 := by omega
                          have ha : a = ⟨rb, bs + off, none⟩ := q6.resolve_left hc0
                          subst ha
                          have hof : off + n * i.size + new.length ≤ blk.cells.length := by rw [hnew]; rw [Nat.add_mul] at hin; omega
                          obtain ⟨p1, p2, p3, p4⟩ := setCells_rel new news r hb q1 (off + n * i.size) hof k2
                          have hrun := run_append_room_src w t tx ty e i hu hi rb (bs + off) n cap vx m news k1 (by omega) (by simpa [Nat.add_assoc] using p1) (by simpa [Nat.add_assoc] using p2)
                          have ee : bs + off + n * i.size = bs + (off + n * i.size) := by omega
                          rw [ee] at hrun
                          refine ⟨_, _, j, hrun, p3, ?_, p4⟩
                          have := hs0.nx r p4
                          simp only [VRel] at this ⊢
                          obtain ⟨rb', bs', a', cap'', c', e'', fr', u1, u2, u3, u4, u5, u6, u7, u8⟩ := this
                          rw [q1] at u1
                          obtain ⟨rfl, rfl⟩ := (by simpa using u1 : rb = rb' ∧ bs = bs')
                          simp at u2
                          obtain ⟨rfl, rfl⟩ := u2
                          exact ⟨rb, bs, _, cap, c', e'', fr', q1, rfl, hroom, u4, u5, .inr rfl, u7, u8⟩
                        · simp at h
                      · simp at h
                    · rename_i hroom
                      split at h
                      · -- the room is known, and too small
                        rename_i hex
                        simp at h; obtain ⟨rfl, rfl⟩ := h
                        exact grow (by have := q5 hex; omega)
                      · -- the room is not known: the elder name is let go
                        simp at h; obtain ⟨rfl, rfl⟩ := h
                        unfold sview at hvs
                        simp only at hvs
                        split at hvs
                        · rename_i blk hb
                          split at hvs
                          · rename_i hle
                            simp at hvs
                            by_cases hcap : n + m ≤ cap
                            · -- it fits after all
                              have hc0 : cap ≠ 0 := by omega
                              have ha : a = ⟨rb, bs + off, none⟩ := q6.resolve_left hc0
                              subst ha
                              have hbound : bs + off + (n + m) * i.size ≤ c.size := by
                                have : (n + m) * i.size ≤ cap * i.size := Nat.mul_le_mul_right _ hcap
                                omega
                              obtain ⟨r2, nx2⟩ := rename_rel r hb q1 (bs + off) (old ++ List.replicate (m * i.size) .undef) (fun c1 e1 fr1 hc1 => by
                                rw [q7] at hc1
                                obtain ⟨rfl, _, _⟩ := (by simpa using hc1 : c = c1 ∧ e' = e1 ∧ fr = fr1)
                                refine ⟨by simp [hold, ← Nat.add_mul]; omega, fun i' s hi' => ?_⟩
                                rw [List.getElem?_append] at hi'
                                split at hi'
                                · rename_i hlt
                                  have hi2 : blk.cells[off + i']? = some s := by
                                    rw [← hvs] at hi'
                                    rw [List.getElem?_take] at hi'
                                    split at hi'
                                    · simpa [List.getElem?_drop] using hi'
                                    · simp at hi'
                                  obtain ⟨u, u1, u2⟩ := own_cells r hb q1 hi2
                                  refine ⟨u, ?_, u2⟩
                                  simpa [World.cell?, q7, Nat.add_assoc] using u1
                                · rename_i hge
                                  simp [List.getElem?_replicate] at hi'
                                  obtain ⟨hlt, rfl⟩ := hi'
                                  have : bs + off + i' < c.size := by rw [Nat.add_mul] at hbound; omega
                                  exact ⟨c[bs + off + i'], by simp [this], by simp only [VRel]⟩)
                              have hmap : ((H.set b none).push ⟨old ++ List.replicate (m * i.size) .undef, false⟩).map H.nb = some ⟨old ++ List.replicate (m * i.size) .undef, false⟩ := by simp [Heap.push, Heap.set]
                              have hk2 := k2.nx r nx2
                              obtain ⟨p1, p2, p3, p4⟩ := setCells_rel new news r2 hmap (rb := rb) (base := bs + off) (by simp [JMap.put]) (n * i.size) (by simp [hold, hnew]) hk2
                              have hrun := run_append_room_src w t tx ty e i hu hi rb (bs + off) n cap vx m news k1 hcap p1 p2
                              have hsp : splice (old ++ List.replicate (m * i.size) SV.undef) (n * i.size) new = old ++ new := by
                                have := splice_over new old (List.replicate (m * i.size) SV.undef) [] (by simp [hnew])
                                simpa [hold] using this
                              have hheap : ((H.set b none).push ⟨old ++ List.replicate (m * i.size) .undef, false⟩).set H.nb (some ⟨splice (old ++ List.replicate (m * i.size) SV.undef) (n * i.size) new, false⟩) = (H.set b none).push ⟨old ++ new, false⟩ := by
                                rw [hsp]
                                simp only [Heap.push, Heap.set, Heap.mk.injEq, and_true]
                                funext k
                                by_cases hk : k = H.nb <;> simp [hk]
                              rw [hheap] at p3 p4
                              refine ⟨_, _, _, hrun, p3, ?_, nx2.trans p4⟩
                              obtain ⟨c', e'', fr', v1, v2⟩ := (nx2.trans p4).sizes rb c e' fr q7
                              simp only [VRel]
                              exact ⟨rb, bs + off, _, cap, c', e'', fr', by simp [JMap.put], rfl, Nat.le_refl _, hcap, by simp, .inr (by simp), v1, by omega⟩
                            · -- it does not
                              obtain ⟨v, w', j', f1, f2, f3, f4⟩ := grow (by omega)
                              obtain ⟨f5, f6⟩ := kill_rel f2 b
                              have hbn : b ≠ H.nb := by
                                have := r.dom _ _ q1
                                omega
                              have hheap : (H.push ⟨old ++ new, false⟩).set b none = (H.set b none).push ⟨old ++ new, false⟩ := by
                                simp only [Heap.push, Heap.set, Heap.mk.injEq, and_true]
                                funext k
                                by_cases hk : k = b
                                · subst hk; simp [hbn]
                                · simp [hk]
                              rw [hheap] at f5 f6
                              exact ⟨v, w', j', f1, f5, f3.nx f2 f6, f4.trans f6⟩
                          · simp at hvs
                        · simp at hvs
                  · simp at h
                · simp at h
              · simp at h
          · simp at h
        · simp at h
      · simp at h
    · simp at h
  · simp at h

theorem ssrc_len {H : Heap} {z n : Nat} {tx : TypeId} {x : SV} {cs : List SV} (h : ssrc P H z tx x = some (n, cs)) : cs.length = n * z := by
  unfold ssrc at h
  split at h
  · exact sview_len h
  · split at h
    · split at h
      · split at h
        · rename_i hz
          simp at h; obtain ⟨rfl, rfl⟩ := h
          simp [byteCells_length, hz]
        · simp at h
      · simp at h
    · simp at h

theorem LRel.take {O : Nat → Prop} {w : World} {j : JMap} : ∀ {ss : List SV} {vs : List Value} (n : Nat), LRel O w j ss vs → LRel O w j (ss.take n) (vs.take n)
  | ss, vs, 0, _ => by simp [LRel]
  | [], vs, n + 1, h => by simp only [LRel] at h; subst h; simp [LRel]
  | s :: ss, vs, n + 1, h => by
    simp only [LRel] at h
    obtain ⟨v, rest, rfl, h1, h2⟩ := h
    simp only [List.take_succ_cons, LRel]
    exact ⟨v, rest.take n, rfl, h1, LRel.take n h2⟩
end Go.Sh
