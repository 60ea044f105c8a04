/-
  What becomes of the shadow's heap when the machine's world changes: a draw, a new block, a store, a block let go.
-/
import Derived.Test.YtehimkdkflnkbaaShA
import Derived.Deep.AppendSrc
import Derived.Laws.MakeOwn
import Derived.Laws.OwnMore
import Derived.Laws.Slices
import Derived.Laws.IdiomCopy
namespace Go.Sh
set_option linter.unusedSimpArgs false
set_option linter.unusedVariables false
open Go Go.RowKit

theorem OwnR.congr {j : JMap} {H H' : Heap} (h : ∀ b, (H'.map b).isSome = (H.map b).isSome) (k : Nat) : OwnR j H' k ↔ OwnR j H k := by
  constructor
  · rintro ⟨b, blk, base, h1, h2⟩
    have := h b
    rw [h1] at this
    obtain ⟨blk', h3⟩ := Option.isSome_iff_exists.1 this.symm
    exact ⟨b, blk', base, h3, h2⟩
  · rintro ⟨b, blk, base, h1, h2⟩
    have := h b
    rw [h1] at this
    obtain ⟨blk', h3⟩ := Option.isSome_iff_exists.1 this
    exact ⟨b, blk', base, h3, h2⟩

/-- The heap turned nowhere: a draw. -/
theorem Nx.drew (j : JMap) (H : Heap) (w : World) : Nx j H w j H w.drew :=
  ⟨rfl, rfl, rfl, Nat.le_refl _, fun _ _ _ => rfl, fun _ c e fr h => ⟨c, e, fr, h, rfl⟩, fun _ _ => rfl, Nat.le_refl _, fun _ h => .inl h⟩

theorem BlkAt.tr {O O' : Nat → Prop} {w w' : World} {j j' : JMap} (T : Tr O w O' w') (hj : ∀ b p, j b = some p → j' b = some p) {blk : Blk} {rb base : Nat}
    (hsame : w'.heap[rb]? = w.heap[rb]?) (h : BlkAt O j w blk rb base) : BlkAt O' j' w' blk rb base := by
  obtain ⟨c, e, lo, hi, h1, h2, h3, h4, h5⟩ := h
  refine ⟨c, e, lo, hi, by rw [hsame, h1], h2, h3, h4, fun i s hi => ?_⟩
  obtain ⟨v, g1, g2⟩ := h5 i s hi
  exact ⟨v, g1, VRel.tr T hj s v g2⟩

theorem Rel.drew {j : JMap} {H : Heap} {w : World} (r : Rel j H w) : Rel j H w.drew where
  dom := r.dom
  live b blk hb := by
    obtain ⟨rb, base, h1, h2⟩ := r.live b blk hb
    exact ⟨rb, base, h1, h2.tr (Nx.drew j H w).tr (fun _ _ h => h) rfl⟩
  inj := r.inj

theorem Rel.own_lt {j : JMap} {H : Heap} {w : World} (r : Rel j H w) {k : Nat} (h : OwnR j H k) : k < w.heap.size := by
  obtain ⟨b, blk, base, h1, h2⟩ := h
  obtain ⟨rb, base', h3, c, e, lo, hi, h4, _⟩ := r.live b blk h1
  rw [h2] at h3
  obtain ⟨rfl, rfl⟩ := (by simpa using h3 : k = rb ∧ base = base')
  rcases Nat.lt_or_ge k w.heap.size with h | h
  · exact h
  · rw [Array.getElem?_eq_none h] at h4; simp at h4

/-- A new name in the map. -/
def JMap.put (j : JMap) (b : Nat) (p : Nat × Nat) : JMap := fun x => if x = b then some p else j x

theorem heap_alloc_old (w : World) (o : Obj) (k : Nat) (h : k < w.heap.size) : (w.alloc o).heap[k]? = w.heap[k]? := Below.heap_alloc w o k h
theorem heap_alloc_new (w : World) (o : Obj) : (w.alloc o).heap[w.heap.size]? = some o := by
  show (w.heap.push o)[w.heap.size]? = some o
  simp

/-- A new block of the call's own. -/
theorem alloc_rel {j : JMap} {H : Heap} {w : World} (r : Rel j H w) (c : Array Value) (e : TypeId) (blk : Blk) (hlen : blk.cells.length ≤ c.size) (hex : blk.ex = true → blk.cells.length = c.size)
    (hc : ∀ (i : Nat) (s : SV), blk.cells[i]? = some s → ∃ v : Value, c[i]? = some v ∧ VRel (OwnR j H) w j s v) :
    Rel (j.put H.nb (w.heap.size, 0)) (H.push blk) (w.alloc (.cells c e)) ∧ Nx j H w (j.put H.nb (w.heap.size, 0)) (H.push blk) (w.alloc (.cells c e)) := by
  have hjn : j H.nb = none := by
    cases hj : j H.nb with
    | none => rfl
    | some p => exact absurd (r.dom _ _ hj) (Nat.lt_irrefl _)
  have hmn : H.map H.nb = none := by
    cases hm : H.map H.nb with
    | none => rfl
    | some b =>
      obtain ⟨rb, base, h1, _⟩ := r.live _ _ hm
      rw [hjn] at h1; simp at h1
  have hjle : ∀ b, b < H.nb → (j.put H.nb (w.heap.size, 0)) b = j b := fun b hb => by
    unfold JMap.put; rw [if_neg (by omega)]
  have hown : ∀ k, OwnR (j.put H.nb (w.heap.size, 0)) (H.push blk) k → OwnR j H k ∨ w.heap.size ≤ k := by
    rintro k ⟨b, bk, base, h1, h2⟩
    unfold Heap.push at h1
    unfold JMap.put at h2
    by_cases hb : b = H.nb
    · subst hb; simp at h2; exact .inr (by omega)
    · simp [hb] at h1 h2; exact .inl ⟨b, bk, base, h1, h2⟩
  have nx : Nx j H w (j.put H.nb (w.heap.size, 0)) (H.push blk) (w.alloc (.cells c e)) := by
    refine ⟨rfl, rfl, rfl, by simp, fun k hk _ => heap_alloc_old w _ k hk, fun k c' e' fr hk => ⟨c', e', fr, ?_, rfl⟩, hjle, by simp [Heap.push], hown⟩
    rw [heap_alloc_old w _ k ?_, hk]
    rcases Nat.lt_or_ge k w.heap.size with h | h
    · exact h
    · rw [Array.getElem?_eq_none h] at hk; simp at hk
  have hj' := nx.jmono r
  refine ⟨⟨?_, ?_, ?_⟩, nx⟩
  · intro b p hb
    unfold JMap.put at hb
    by_cases h : b = H.nb
    · subst h; simp [Heap.push]
    · simp [h] at hb; have := r.dom b p hb; simp [Heap.push]; omega
  · intro b bk hb
    unfold Heap.push at hb
    by_cases h : b = H.nb
    · subst h
      simp at hb; subst hb
      refine ⟨w.heap.size, 0, by simp [JMap.put], c, e, 0, 0, heap_alloc_new w _, .inl (Nat.le_refl _), by omega, by simpa using hex, fun i s hi => ?_⟩
      obtain ⟨v, h1, h2⟩ := hc i s hi
      exact ⟨v, by simpa using h1, VRel.tr nx.tr hj' s v h2⟩
    · simp [h] at hb
      obtain ⟨rb, base, h1, h2⟩ := r.live b bk hb
      exact ⟨rb, base, hj' _ _ h1, h2.tr nx.tr hj' (heap_alloc_old w _ _ (r.own_lt ⟨b, bk, base, hb, h1⟩))⟩
  · intro b b' bk bk' rb base base' h1 h2 h3 h4
    unfold Heap.push at h1 h2
    unfold JMap.put at h3 h4
    by_cases hb : b = H.nb <;> by_cases hb' : b' = H.nb
    · omega
    · subst hb; simp [hb'] at h2 h3 h4
      have := r.own_lt ⟨b', bk', base', h2, h4⟩
      omega
    · subst hb'; simp [hb] at h1 h3 h4
      have := r.own_lt ⟨b, bk, base, h1, h3⟩
      omega
    · simp [hb, hb'] at h1 h2 h3 h4
      exact r.inj b b' bk bk' rb base base' h1 h2 h3 h4

/-- A block is let go. -/
theorem kill_rel {j : JMap} {H : Heap} {w : World} (r : Rel j H w) (b : Nat) : Rel j (H.set b none) w ∧ Nx j H w j (H.set b none) w := by
  have hsub : ∀ k, OwnR j (H.set b none) k → OwnR j H k := by
    rintro k ⟨b', bk, base, h1, h2⟩
    unfold Heap.set at h1
    by_cases hb : b' = b
    · simp [hb] at h1
    · simp [hb] at h1; exact ⟨b', bk, base, h1, h2⟩
  have T : Tr (OwnR j H) w (OwnR j (H.set b none)) w := Tr.weaken w hsub
  refine ⟨⟨r.dom, ?_, ?_⟩, ⟨rfl, rfl, rfl, Nat.le_refl _, fun _ _ _ => rfl, fun _ c e fr h => ⟨c, e, fr, h, rfl⟩, fun _ _ => rfl, Nat.le_refl _, fun k h => .inl (hsub k h)⟩⟩
  · intro b' bk hb
    unfold Heap.set at hb
    by_cases h : b' = b
    · simp [h] at hb
    · simp [h] at hb
      obtain ⟨rb, base, h1, h2⟩ := r.live b' bk hb
      exact ⟨rb, base, h1, h2.tr T (fun _ _ h => h) rfl⟩
  · intro b1 b2 bk1 bk2 rb base base' h1 h2 h3 h4
    unfold Heap.set at h1 h2
    by_cases g1 : b1 = b
    · simp [g1] at h1
    · by_cases g2 : b2 = b
      · simp [g2] at h2
      · simp [g1, g2] at h1 h2
        exact r.inj _ _ _ _ _ _ _ h1 h2 h3 h4

/-- One cell of the call's own is written. -/
theorem setCell_rel {j : JMap} {H : Heap} {w : World} (r : Rel j H w) {b : Nat} {blk : Blk} (hb : H.map b = some blk) {rb base : Nat} (hj : j b = some (rb, base)) (off : Nat) (s : SV) (v : Value)
    (hoff : off < blk.cells.length) (hv : VRel (OwnR j H) w j s v) :
    (∃ u, w.cell? ⟨rb, base + off, none⟩ = some u) ∧ w.frozen? ⟨rb, base + off, none⟩ = false ∧
    Rel j (H.set b (some ⟨blk.cells.set off s, blk.ex⟩)) (w.setCell ⟨rb, base + off, none⟩ v) ∧ Nx j H w j (H.set b (some ⟨blk.cells.set off s, blk.ex⟩)) (w.setCell ⟨rb, base + off, none⟩ v) := by
  obtain ⟨rb', base', h1, c, e, lo, hi, h2, h3, h4, h5, h6⟩ := r.live b blk hb
  rw [hj] at h1
  obtain ⟨rfl, rfl⟩ := (by simpa using h1 : rb = rb' ∧ base = base')
  have hlt : base + off < c.size := by omega
  have hiff : ∀ k, OwnR j (H.set b (some ⟨blk.cells.set off s, blk.ex⟩)) k ↔ OwnR j H k := OwnR.congr (fun b' => by
    unfold Heap.set
    by_cases h : b' = b
    · subst h; simp [hb]
    · simp [h])
  have hown : OwnR j H rb := ⟨b, blk, base, hb, hj⟩
  have hne : ∀ k, k ≠ rb → (w.setCell ⟨rb, base + off, none⟩ v).heap[k]? = w.heap[k]? := fun k hk => Below.heap_setCell w _ v k hk
  have hnew : (w.setCell ⟨rb, base + off, none⟩ v).heap[rb]? = some (.cells (c.setIfInBounds (base + off) v) e (lo, hi)) := by
    simp [World.setCell, Array.getElem?_modify, h2]
  have nx : Nx j H w j (H.set b (some ⟨blk.cells.set off s, blk.ex⟩)) (w.setCell ⟨rb, base + off, none⟩ v) := by
    refine ⟨rfl, rfl, rfl, by simp, fun k _ ho => hne k (fun e => ho (e ▸ hown)), fun k c' e' fr hk => ?_, fun _ _ => rfl, Nat.le_refl _, fun k h => .inl ((hiff k).1 h)⟩
    by_cases h : k = rb
    · subst h
      rw [h2] at hk
      obtain ⟨rfl, rfl, rfl⟩ := (by simpa using hk : c = c' ∧ e = e' ∧ (lo, hi) = fr)
      exact ⟨_, _, _, hnew, by simp⟩
    · exact ⟨c', e', fr, by rw [hne k h, hk], rfl⟩
  refine ⟨⟨c[base + off], by simp [World.cell?, h2, hlt]⟩, ?_, ⟨r.dom, ?_, ?_⟩, nx⟩
  · simp only [World.frozen?, h2]
    rcases h3 with h3 | h3
    · simp; omega
    · simp; omega
  · intro b' bk hb'
    by_cases h : b' = b
    · subst h
      simp [Heap.set] at hb'; subst hb'
      refine ⟨rb, base, hj, c.setIfInBounds (base + off) v, e, lo, hi, hnew, by simpa using h3, by simpa using h4, by simpa using h5, fun i s' hi => ?_⟩
      by_cases hio : i = off
      · subst hio
        have : s' = s := by simpa [hoff] using hi.symm
        subst this
        exact ⟨v, by simp [hlt], hv.nx r nx⟩
      · obtain ⟨u, g1, g2⟩ := h6 i s' (by simpa [List.getElem?_set, Ne.symm hio] using hi)
        exact ⟨u, by rw [Array.getElem?_setIfInBounds_ne (by omega), g1], g2.nx r nx⟩
    · have hb'' : H.map b' = some bk := by simpa [Heap.set, h] using hb'
      obtain ⟨rb', base', g1, g2⟩ := r.live b' bk hb''
      refine ⟨rb', base', g1, g2.tr nx.tr (fun _ _ h => h) (hne rb' (fun e => h ?_))⟩
      subst e
      exact r.inj _ _ _ _ _ _ _ hb'' hb g1 hj
  · have hm : ∀ x bk, (H.set b (some ⟨blk.cells.set off s, blk.ex⟩)).map x = some bk → ∃ bk', H.map x = some bk' := by
      intro x bk hx
      unfold Heap.set at hx
      by_cases h : x = b
      · subst h; exact ⟨blk, hb⟩
      · simp [h] at hx; exact ⟨bk, hx⟩
    intro b1 b2 bk1 bk2 rb1 ba1 ba2 g1 g2 g3 g4
    obtain ⟨k1, g1⟩ := hm _ _ g1
    obtain ⟨k2, g2⟩ := hm _ _ g2
    exact r.inj _ _ _ _ _ _ _ g1 g2 g3 g4

/-- Cells put over a list, one by one. -/
def splice : List SV → Nat → List SV → List SV
  | l, _, [] => l
  | l, o, c :: cs => splice (l.set o c) (o + 1) cs

theorem splice_length : ∀ (cs : List SV) (l : List SV) (o : Nat), (splice l o cs).length = l.length
  | [], l, o => rfl
  | c :: cs, l, o => by simp [splice, splice_length cs]

theorem Heap.set_set (H : Heap) (b : Nat) (x y : Option Blk) : (H.set b x).set b y = H.set b y := by
  unfold Heap.set
  congr 1
  funext k
  by_cases h : k = b <;> simp [h]
theorem Heap.set_same (H : Heap) (b : Nat) (x : Option Blk) (h : H.map b = x) : H.set b x = H := by
  unfold Heap.set
  have : (fun k => if k = b then x else H.map k) = H.map := by
    funext k
    by_cases hk : k = b
    · subst hk; simp [h]
    · simp [hk]
  rw [this]
theorem Heap.map_set_same (H : Heap) (b : Nat) (x : Option Blk) : (H.set b x).map b = x := by simp [Heap.set]

/-- Several cells in a row. -/
theorem setCells_rel : ∀ (cs : List SV) (vs : List Value) {j : JMap} {H : Heap} {w : World} (_ : Rel j H w) {b : Nat} {blk : Blk} (_ : H.map b = some blk) {rb base : Nat} (_ : j b = some (rb, base)) (off : Nat)
    (_ : off + cs.length ≤ blk.cells.length) (_ : LRel (OwnR j H) w j cs vs),
    (∀ k, k < vs.length → (w.cell? ⟨rb, base + off + k, none⟩).isSome = true) ∧ (∀ k, k < vs.length → w.frozen? ⟨rb, base + off + k, none⟩ = false) ∧
    Rel j (H.set b (some ⟨splice blk.cells off cs, blk.ex⟩)) (w.setCells rb (base + off) vs) ∧ Nx j H w j (H.set b (some ⟨splice blk.cells off cs, blk.ex⟩)) (w.setCells rb (base + off) vs)
  | [], vs, j, H, w, r, b, blk, hb, rb, base, hj, off, hl, hr => by
    simp only [LRel] at hr; subst hr
    simp only [splice, World.setCells]
    rw [H.set_same b _ (by rw [hb])]
    exact ⟨fun k hk => by simp at hk, fun k hk => by simp at hk, r, Nx.refl _ _ _⟩
  | c :: cs, vs, j, H, w, r, b, blk, hb, rb, base, hj, off, hl, hr => by
    simp only [LRel] at hr
    obtain ⟨v, rest, rfl, hv, hrest⟩ := hr
    have hoff : off < blk.cells.length := by simp at hl; omega
    obtain ⟨⟨u, h1⟩, h2, r1, n1⟩ := setCell_rel r hb hj off c v hoff hv
    have ih := setCells_rel cs rest r1 (b := b) (blk := ⟨blk.cells.set off c, blk.ex⟩) (Heap.map_set_same _ _ _) hj (off + 1) (by simp at hl ⊢; omega) (hrest.nx r n1)
    obtain ⟨g1, g2, g3, g4⟩ := ih
    rw [Heap.set_set] at g3 g4
    have e1 : base + (off + 1) = base + off + 1 := by omega
    rw [e1] at g3 g4
    refine ⟨fun k hk => ?_, fun k hk => ?_, by simpa [splice, World.setCells] using g3, by simpa [splice, World.setCells] using n1.trans g4⟩
    · cases k with
      | zero => simp [h1]
      | succ k =>
        have := g1 k (by simpa using hk)
        rw [World.cell?_setCell_other _ _ _ _ (by simp; omega)] at this
        rw [← this]; congr 3; omega
    · cases k with
      | zero => simpa using h2
      | succ k =>
        have := g2 k (by simpa using hk)
        rw [World.frozen?_setCell] at this
        rw [← this]; congr 2; omega

/-- The cells that a live block's slice shows. -/
theorem own_cells {j : JMap} {H : Heap} {w : World} (r : Rel j H w) {b : Nat} {blk : Blk} (hb : H.map b = some blk) {rb base : Nat} (hj : j b = some (rb, base)) {i : Nat} {s : SV} (hi : blk.cells[i]? = some s) :
    ∃ v, w.cell? ⟨rb, base + i, none⟩ = some v ∧ VRel (OwnR j H) w j s v := by
  obtain ⟨rb', base', h1, c, e, lo, hi', h2, h3, h4, h5, h6⟩ := r.live b blk hb
  rw [hj] at h1
  obtain ⟨rfl, rfl⟩ := (by simpa using h1 : rb = rb' ∧ base = base')
  obtain ⟨v, g1, g2⟩ := h6 i s hi
  exact ⟨v, by simp [World.cell?, h2, g1], g2⟩

/-- Out of cells that stand in memory: the list of their values. -/
theorem mem_list {O : Nat → Prop} {w : World} {j : JMap} : ∀ (ss : List SV) (b o : Nat), (∀ i s, ss[i]? = some s → ∃ v, w.cell? ⟨b, o + i, none⟩ = some v ∧ VRel O w j s v) →
    ∃ vs : List Value, vs.length = ss.length ∧ (∀ i v, vs[i]? = some v → w.cell? ⟨b, o + i, none⟩ = some v) ∧ LRel O w j ss vs
  | [], b, o, _ => ⟨[], rfl, fun i v h => by simp at h, by simp only [LRel]⟩
  | s :: ss, b, o, h => by
    obtain ⟨v, h1, h2⟩ := h 0 s (by simp)
    obtain ⟨vs, g1, g2, g3⟩ := mem_list ss b (o + 1) (fun i s hi => by
      have := h (i + 1) s (by simpa using hi)
      simpa [Nat.add_assoc, Nat.add_comm 1 i] using this)
    refine ⟨v :: vs, by simp [g1], fun i u hi => ?_, by simp only [LRel]; exact ⟨v, vs, rfl, h2, g3⟩⟩
    cases i with
    | zero => simp at hi; subst hi; simpa using h1
    | succ i => simpa [Nat.add_assoc, Nat.add_comm 1 i] using g2 i u (by simpa using hi)
end Go.Sh
