/-
  A body's condition by its text; contracts of calls.
-/
import Derived.Test.YtehimkdkflnkbaaShI
namespace Go.Sh
set_option linter.unusedSimpArgs false
set_option linter.unusedVariables false
open Go Go.RowKit
variable {P : Program}

/-- All regions that draw are such that the text's order serves. -/
def drawsOk : Code → Bool
  | .region _ ops draw => !draw || drawOk ops
  | .seq a b => drawsOk a && drawsOk b
  | .cond _ a b => drawsOk a && drawsOk b
  | .block _ c => drawsOk c
  | .loop c => drawsOk c
  | _ => true

/-- What must hold at a statement's beginning for Q to hold behind it. -/
def vc (P : Program) (n : Nat) : Code → (Exit → St → Prop) → St → Prop
  | .skip, Q, s => Q .normal s
  | .label _, Q, s => Q .normal s
  | .region _ ops draw, Q, s => opsW P n draw ops ops.toList s (Q .normal)
  | .seq a b, Q, s => vc P n a (seqQ (fun s' => vc P n b Q s') Q) s
  | .cond c a b, Q, s => match sval s.σ c with
    | .val (.bool t) => (t = true → vc P n a Q s) ∧ (t = false → vc P n b Q s)
    | _ => False
  | .block id c, Q, s => vc P n c (blockQ id Q) s
  | .loop c, Q, s => SW P n (.loop c) Q s
  | .exit id, Q, s => Q (.exit id) s
  | .ret, Q, s => Q .ret s
  | _, _, _ => False

theorem opsW_nondet {n : Nat} {det : Bool} {ops : Array Oper} {K : St → Prop} : ∀ (rest : List Oper) (s : St), opsW P n det ops rest s K → opsW P n false ops rest s K := by
  have opm : ∀ (o : Oper) (s : St) (K K' : St → Prop), (∀ s', K s' → K' s') → opW P n false o s K → opW P n false o s K' := by
    rintro o s K K' hk ⟨hd, h⟩
    refine ⟨hd, ?_⟩
    split at h
    · exact h.mono (fun r H' hh => hk _ hh)
    · split at h
      · exact hk _ h
      · exact h
  intro rest
  induction rest with
  | nil => exact fun s h => h
  | cons o rest ih =>
    intro s h
    simp only [opsW] at h ⊢
    split at h
    · exact opm _ _ _ _ ih (opW_nondet h)
    · split at h
      · split at h
        · exact opm _ _ _ _ ih (opW_nondet h)
        · exact ⟨h.1, ih _ h.2⟩
        · exact h
      · exact h

theorem SW_of_vc {n : Nat} (hm : P.follows .mixedOrders = true) : ∀ (c : Code) (Q : Exit → St → Prop) (s : St), drawsOk c = true → vc P n c Q s → SW P n c Q s
  | .skip, Q, s, _, h => SW.skip h
  | .label _, Q, s, _, h => SW.label h
  | .region id ops draw, Q, s, hd, h => by
    cases draw with
    | false => exact SW.region h
    | true => exact SW.regionD hm (by simpa [drawsOk] using hd) h
  | .seq a b, Q, s, hd, h => by
    simp only [drawsOk, Bool.and_eq_true] at hd
    refine SW.seq (SW.mono (SW_of_vc hm a _ s hd.1 h) ?_)
    intro e s' he
    cases e with
    | normal => exact SW_of_vc hm b Q s' hd.2 he
    | _ => exact he
  | .cond c a b, Q, s, hd, h => by
    simp only [drawsOk, Bool.and_eq_true] at hd
    simp only [vc] at h
    split at h
    · rename_i t ht
      exact SW.cond ht (fun e => SW_of_vc hm a Q s hd.1 (h.1 e)) (fun e => SW_of_vc hm b Q s hd.2 (h.2 e))
    · exact h.elim
  | .block id c, Q, s, hd, h => SW.block (SW_of_vc hm c _ s (by simpa [drawsOk] using hd) h)
  | .loop c, Q, s, _, h => h
  | .exit id, Q, s, _, h => SW.exit h
  | .ret, Q, s, _, h => SW.ret h
  | .rangeFunc _ _ _ _, _, _, _, h => h.elim
  | .scope _, _, _, _, h => h.elim
  | .goto _, _, _, _, h => h.elim
  | .refuse _, _, _, _, h => h.elim

/-! ### Seen as contents -/
def viewV : Value → SV
  | .slice none 0 0 => .row 0 false []
  | v => .val v
theorem viewV_rel {O : Nat → Prop} {w : World} {j : JMap} (v : Value) : VRel O w j (viewV v) v := by
  unfold viewV
  split
  · simp only [VRel]
    exact ⟨none, 0, rfl, Nat.le_refl _, by simp, .inl (by simp)⟩
  · simp only [VRel]
mutual
def view (H : Heap) : Nat → SV → Option SV
  | _, .undef => some .undef
  | _, .val v => some (viewV v)
  | _, .row n _ cs => some (.row n false cs)
  | _, .rptr cs off => some (.rptr cs off)
  | 0, .own _ _ _ _ _ _ => none
  | f + 1, .own b off n cap sz ex => match H.map b with
    | some blk => if off + n * sz ≤ blk.cells.length then (match viewL H f ((blk.cells.drop off).take (n * sz)) with | some cs => some (.row n false cs) | none => none) else none
    | none => none
  | 0, .optr _ _ => none
  | f + 1, .optr b off => match H.map b with
    | some blk => match viewL H f blk.cells with | some cs => some (.rptr cs off) | none => none
    | none => none
  | 0, .agg _ => none
  | f + 1, .agg cs => match viewL H f cs with | some cs => some (.agg cs) | none => none
  | 0, .tup _ => none
  | f + 1, .tup cs => match viewL H f cs with | some cs => some (.tup cs) | none => none
  | 0, .clos _ _ _ => none
  | f + 1, .clos fn a c => match viewL H f a, viewL H f c with | some a, some c => some (.clos fn a c) | _, _ => none
  | 0, .iface _ _ => none
  | f + 1, .iface t s => match view H f s with | some s => some (.iface t s) | none => none
def viewL (H : Heap) : Nat → List SV → Option (List SV)
  | _, [] => some []
  | f, s :: ss => match view H f s, viewL H f ss with
    | some s, some ss => some (s :: ss)
    | _, _ => none
end


mutual
/-- No rows that came in. -/
def noRow : SV → Bool
  | .row _ _ _ => false
  | .rptr _ _ => false
  | .agg cs => noRowL cs
  | .tup cs => noRowL cs
  | .clos _ a c => noRowL a && noRowL c
  | .iface _ s => noRow s
  | .undef => true
  | .val _ => true
  | .own _ _ _ _ _ _ => true
  | .optr _ _ => true
def noRowL : List SV → Bool
  | [] => true
  | s :: ss => noRow s && noRowL ss
/-- The blocks' names, moved up. -/
def shift (k : Nat) : SV → SV
  | .own b off n cap sz ex => .own (b + k) off n cap sz ex
  | .optr b off => .optr (b + k) off
  | .agg cs => .agg (shiftL k cs)
  | .tup cs => .tup (shiftL k cs)
  | .clos fn a c => .clos fn (shiftL k a) (shiftL k c)
  | .iface t s => .iface t (shift k s)
  | .undef => .undef
  | .val v => .val v
  | .row n ex cs => .row n ex cs
  | .rptr cs off => .rptr cs off
def shiftL (k : Nat) : List SV → List SV
  | [] => []
  | s :: ss => shift k s :: shiftL k ss
end

mutual
theorem VRel.shift {O O' : Nat → Prop} {w : World} {j J : JMap} {k : Nat} (hj : ∀ b p, j b = some p → J (b + k) = some p) : ∀ (s : SV) (v : Value), noRow s = true → VRel O w j s v → VRel O' w J (Sh.shift k s) v
  | .undef, v, _, _ => by simp only [Sh.shift, VRel]
  | .val u, v, _, h => by simp only [Sh.shift, VRel] at h ⊢; exact h
  | .row _ _ _, v, hn, _ => by simp [noRow] at hn
  | .rptr _ _, v, hn, _ => by simp [noRow] at hn
  | .own b off n cap sz ex, v, _, h => by
    simp only [Sh.shift, VRel] at h ⊢
    obtain ⟨rb, base, a, cap', c, e, fr, h1, h2⟩ := h
    exact ⟨rb, base, a, cap', c, e, fr, hj _ _ h1, h2⟩
  | .optr b off, v, _, h => by
    simp only [Sh.shift, VRel] at h ⊢
    obtain ⟨rb, base, h1, h2⟩ := h
    exact ⟨rb, base, hj _ _ h1, h2⟩
  | .agg cs, v, hn, h => by
    simp only [noRow] at hn
    simp only [Sh.shift, VRel] at h ⊢
    obtain ⟨vs, h1, h2⟩ := h
    exact ⟨vs, h1, LRel.shift hj cs vs hn h2⟩
  | .tup cs, v, hn, h => by
    simp only [noRow] at hn
    simp only [Sh.shift, VRel] at h ⊢
    obtain ⟨vs, h1, h2⟩ := h
    exact ⟨vs, h1, LRel.shift hj cs vs hn h2⟩
  | .clos fn a c, v, hn, h => by
    simp only [noRow, Bool.and_eq_true] at hn
    simp only [Sh.shift, VRel] at h ⊢
    obtain ⟨us, vs, h1, h2, h3⟩ := h
    exact ⟨us, vs, h1, LRel.shift hj a us hn.1 h2, LRel.shift hj c vs hn.2 h3⟩
  | .iface t s, v, hn, h => by
    simp only [noRow] at hn
    simp only [Sh.shift, VRel] at h ⊢
    obtain ⟨u, h1, h2⟩ := h
    exact ⟨u, h1, VRel.shift hj s u hn h2⟩
theorem LRel.shift {O O' : Nat → Prop} {w : World} {j J : JMap} {k : Nat} (hj : ∀ b p, j b = some p → J (b + k) = some p) : ∀ (s : List SV) (v : List Value), noRowL s = true → LRel O w j s v → LRel O' w J (Sh.shiftL k s) v
  | [], v, _, h => by simpa only [Sh.shiftL, LRel] using h
  | s :: ss, v, hn, h => by
    simp only [noRowL, Bool.and_eq_true] at hn
    simp only [Sh.shiftL, LRel] at h ⊢
    obtain ⟨u, rest, h1, h2, h3⟩ := h
    exact ⟨u, rest, h1, VRel.shift hj s u hn.1 h2, LRel.shift hj ss rest hn.2 h3⟩
end

mutual
theorem VRel.anyO {O O' : Nat → Prop} {w : World} {j : JMap} : ∀ (s : SV) (v : Value), noRow s = true → VRel O w j s v → VRel O' w j s v
  | .undef, v, _, _ => by simp only [VRel]
  | .val u, v, _, h => by simp only [VRel] at h ⊢; exact h
  | .row _ _ _, v, hn, _ => by simp [noRow] at hn
  | .rptr _ _, v, hn, _ => by simp [noRow] at hn
  | .own b off n cap sz ex, v, _, h => by simp only [VRel] at h ⊢; exact h
  | .optr b off, v, _, h => by simp only [VRel] at h ⊢; exact h
  | .agg cs, v, hn, h => by
    simp only [noRow] at hn
    simp only [VRel] at h ⊢
    obtain ⟨vs, h1, h2⟩ := h
    exact ⟨vs, h1, LRel.anyO cs vs hn h2⟩
  | .tup cs, v, hn, h => by
    simp only [noRow] at hn
    simp only [VRel] at h ⊢
    obtain ⟨vs, h1, h2⟩ := h
    exact ⟨vs, h1, LRel.anyO cs vs hn h2⟩
  | .clos fn a c, v, hn, h => by
    simp only [noRow, Bool.and_eq_true] at hn
    simp only [VRel] at h ⊢
    obtain ⟨us, vs, h1, h2, h3⟩ := h
    exact ⟨us, vs, h1, LRel.anyO a us hn.1 h2, LRel.anyO c vs hn.2 h3⟩
  | .iface t s, v, hn, h => by
    simp only [noRow] at hn
    simp only [VRel] at h ⊢
    obtain ⟨u, h1, h2⟩ := h
    exact ⟨u, h1, VRel.anyO s u hn h2⟩
theorem LRel.anyO {O O' : Nat → Prop} {w : World} {j : JMap} : ∀ (s : List SV) (v : List Value), noRowL s = true → LRel O w j s v → LRel O' w j s v
  | [], v, _, h => by simpa only [LRel] using h
  | s :: ss, v, hn, h => by
    simp only [noRowL, Bool.and_eq_true] at hn
    simp only [LRel] at h ⊢
    obtain ⟨u, rest, h1, h2, h3⟩ := h
    exact ⟨u, rest, h1, VRel.anyO s u hn.1 h2, LRel.anyO ss rest hn.2 h3⟩
end

/-- Live blocks as a reader meets them. -/
def Live (O : Nat → Prop) (j : JMap) (H : Heap) (w : World) : Prop :=
  ∀ b blk, H.map b = some blk → ∃ rb base, j b = some (rb, base) ∧ ¬ O rb ∧ ∀ i s, blk.cells[i]? = some s → ∃ v, w.cell? ⟨rb, base + i, none⟩ = some v ∧ VRel O w j s v

theorem Rel.live0 {j : JMap} {H : Heap} {w : World} (r : Rel j H w) : Live (fun _ => False) j H w := by
  intro b blk hb
  obtain ⟨rb, base, h1, _⟩ := r.live b blk hb
  refine ⟨rb, base, h1, fun h => h, fun i s hi => ?_⟩
  obtain ⟨v, g1, g2⟩ := own_cells r hb h1 hi
  exact ⟨v, g1, VRel.tr (Tr.weaken w (fun _ h => h.elim)) (fun _ _ h => h) s v g2⟩

def nrHeap (H : Heap) : Prop := ∀ b blk, H.map b = some blk → noRowL blk.cells = true
theorem noRowL_get : ∀ {ss : List SV} {i : Nat} {s : SV}, noRowL ss = true → ss[i]? = some s → noRow s = true
  | [], i, s, _, h => by simp at h
  | t :: ss, 0, s, hn, h => by simp only [noRowL, Bool.and_eq_true] at hn; simp at h; subst h; exact hn.1
  | t :: ss, i + 1, s, hn, h => by simp only [noRowL, Bool.and_eq_true] at hn; exact noRowL_get hn.2 (by simpa using h)
theorem Rel.liveN {O : Nat → Prop} {j : JMap} {H : Heap} {w : World} (r : Rel j H w) (hn : nrHeap H) (hO : ∀ k, OwnR j H k → ¬ O k) : Live O j H w := by
  intro b blk hb
  obtain ⟨rb, base, h1, _⟩ := r.live b blk hb
  refine ⟨rb, base, h1, hO _ ⟨b, blk, base, hb, h1⟩, fun i s hi => ?_⟩
  obtain ⟨v, g1, g2⟩ := own_cells r hb h1 hi
  exact ⟨v, g1, VRel.anyO s v (noRowL_get (hn b blk hb) hi) g2⟩

mutual
theorem view_sound {O : Nat → Prop} {j : JMap} {H : Heap} {w : World} (hl : Live O j H w) : ∀ (f : Nat) (s s' : SV) (v : Value), view H f s = some s' → VRel O w j s v → VRel O w noj s' v
  | f, .undef, s', v, h, _ => by
    have : s' = .undef := by cases f <;> simpa [view] using h.symm
    subst this; simp only [VRel]
  | f, .val u, s', v, h, hv => by
    have : s' = viewV u := by cases f <;> simpa [view] using h.symm
    subst this
    simp only [VRel] at hv
    subst hv
    exact viewV_rel _
  | f, .row n ex cs, s', v, h, hv => by
    have : s' = .row n false cs := by cases f <;> simpa [view] using h.symm
    subst this
    simp only [VRel] at hv ⊢
    obtain ⟨a, cap, h1, h2, _, h4⟩ := hv
    exact ⟨a, cap, h1, h2, by simp, h4⟩
  | f, .rptr cs off, s', v, h, hv => by
    have : s' = .rptr cs off := by cases f <;> simpa [view] using h.symm
    subst this; simpa only [VRel] using hv
  | 0, .own _ _ _ _ _ _, s', v, h, _ => by simp [view] at h
  | f + 1, .own b off n cap sz ex, s', v, h, hv => by
    simp only [view] at h
    split at h
    · rename_i blk hb
      split at h
      · rename_i hle
        split at h
        · rename_i cs hcs
          simp at h; subst h
          simp only [VRel] at hv
          obtain ⟨rb, base, a, cap', c, e, fr, g1, rfl, g3, g4, g5, g6, g7, g8⟩ := hv
          obtain ⟨rb', base', k1, k2, k3⟩ := hl b blk hb
          rw [g1] at k1
          obtain ⟨rfl, rfl⟩ := (by simpa using k1 : rb = rb' ∧ base = base')
          obtain ⟨vs, q1, q2, q3⟩ := mem_list (O := O) (w := w) (j := j) ((blk.cells.drop off).take (n * sz)) rb (base + off) (fun i s hi => by
            rw [List.getElem?_take] at hi
            split at hi
            · obtain ⟨u, p1, p2⟩ := k3 (off + i) s (by simpa [List.getElem?_drop] using hi)
              exact ⟨u, by simpa [Nat.add_assoc] using p1, p2⟩
            · simp at hi)
          have hL := viewL_sound hl f _ cs vs hcs q3
          simp only [VRel]
          refine ⟨some a, cap', rfl, by omega, by simp, .inr ⟨a, rfl, ?_⟩⟩
          · by_cases hc0 : cs = []
            · subst hc0; simp only [CRel]
            · have hlen := hL.length
              have hn0 : cap' ≠ 0 := by
                intro h0
                have : n = 0 := by omega
                subst this
                simp at q1
                rw [q1] at hlen
                simp at hlen
                exact hc0 (by simpa using hlen.symm)
              have ha : a = ⟨rb, base + off, none⟩ := g6.resolve_left hn0
              subst ha
              refine CRel.mk (fun _ => k2) (fun i s hi => ?_)
              obtain ⟨u, p1, p2⟩ := hL.get hi
              exact ⟨u, q2 i u p1, p2⟩
        · simp at h
      · simp at h
    · simp at h
  | 0, .optr _ _, s', v, h, _ => by simp [view] at h
  | f + 1, .optr b off, s', v, h, hv => by
    simp only [view] at h
    split at h
    · rename_i blk hb
      split at h
      · rename_i cs hcs
        simp at h; subst h
        simp only [VRel] at hv
        obtain ⟨rb, base, g1, rfl⟩ := hv
        obtain ⟨rb', base', k1, k2, k3⟩ := hl b blk hb
        rw [g1] at k1
        obtain ⟨rfl, rfl⟩ := (by simpa using k1 : rb = rb' ∧ base = base')
        obtain ⟨vs, q1, q2, q3⟩ := mem_list (O := O) (w := w) (j := j) blk.cells rb base k3
        have hL := viewL_sound hl f _ cs vs hcs q3
        simp only [VRel]
        refine ⟨⟨rb, base, none⟩, by rw [Addr.add_lit], CRel.mk (fun _ => k2) (fun i s hi => ?_)⟩
        obtain ⟨u, p1, p2⟩ := hL.get hi
        exact ⟨u, q2 i u p1, p2⟩
      · simp at h
    · simp at h
  | 0, .agg _, s', v, h, _ => by simp [view] at h
  | f + 1, .agg cs, s', v, h, hv => by
    simp only [view] at h
    split at h
    · rename_i cs' hcs
      simp at h; subst h
      simp only [VRel] at hv ⊢
      obtain ⟨vs, g1, g2⟩ := hv
      exact ⟨vs, g1, viewL_sound hl f cs cs' vs hcs g2⟩
    · simp at h
  | 0, .tup _, s', v, h, _ => by simp [view] at h
  | f + 1, .tup cs, s', v, h, hv => by
    simp only [view] at h
    split at h
    · rename_i cs' hcs
      simp at h; subst h
      simp only [VRel] at hv ⊢
      obtain ⟨vs, g1, g2⟩ := hv
      exact ⟨vs, g1, viewL_sound hl f cs cs' vs hcs g2⟩
    · simp at h
  | 0, .clos _ _ _, s', v, h, _ => by simp [view] at h
  | f + 1, .clos fn a c, s', v, h, hv => by
    simp only [view] at h
    split at h
    · rename_i a' c' ha hc
      simp at h; subst h
      simp only [VRel] at hv ⊢
      obtain ⟨us, vs, g1, g2, g3⟩ := hv
      exact ⟨us, vs, g1, viewL_sound hl f a a' us ha g2, viewL_sound hl f c c' vs hc g3⟩
    · simp at h
  | 0, .iface _ _, s', v, h, _ => by simp [view] at h
  | f + 1, .iface t s, s', v, h, hv => by
    simp only [view] at h
    split at h
    · rename_i s'' hs
      simp at h; subst h
      simp only [VRel] at hv ⊢
      obtain ⟨u, g1, g2⟩ := hv
      exact ⟨u, g1, view_sound hl f s s'' u hs g2⟩
    · simp at h
theorem viewL_sound {O : Nat → Prop} {j : JMap} {H : Heap} {w : World} (hl : Live O j H w) : ∀ (f : Nat) (ss ss' : List SV) (vs : List Value), viewL H f ss = some ss' → LRel O w j ss vs → LRel O w noj ss' vs
  | f, [], ss', vs, h, hv => by
    have : ss' = [] := by cases f <;> simpa [viewL] using h.symm
    subst this; simpa only [LRel] using hv
  | f, s :: ss, ss', vs, h, hv => by
    have h' : (match view H f s, viewL H f ss with | some s, some ss => some (s :: ss) | _, _ => none) = some ss' := by
      cases f <;> simpa only [viewL] using h
    split at h'
    · rename_i t ts ht hts
      simp at h'; subst h'
      simp only [LRel] at hv ⊢
      obtain ⟨v, rest, g1, g2, g3⟩ := hv
      exact ⟨v, rest, g1, view_sound hl f s t v ht g2, viewL_sound hl f ss ts rest hts g3⟩
    · simp at h'
end

/-! ### Contracts -/
/-- f writes nothing that came in; its result reads as T, in memory of its own. -/
def PCall (P : Program) (f : FuncId) (args : List SV) (T : SV) : Prop :=
  Enters P f ∧ ∀ w vs, LRel (fun _ => False) w noj args vs → Calls P f vs.toArray w (fun e w' => ∃ v, e = .returned v ∧ Below w.heap.size w w' ∧ VRel (fun k => k < w.heap.size) w' noj T v)

/-- f writes nothing that came in; its result and the blocks that it made and that are still of use are as R says. -/
def FCall (P : Program) (f : FuncId) (args : List SV) (R : SV → Heap → Prop) : Prop :=
  Enters P f ∧ ∀ w vs, LRel (fun _ => False) w noj args vs → Calls P f vs.toArray w (fun e w' => ∃ v r j H, e = .returned v ∧ Below w.heap.size w w' ∧ Rel j H w' ∧ VRel (OwnR j H) w' j r v ∧ (∀ k, OwnR j H k → w.heap.size ≤ k) ∧ noRow r = true ∧ nrHeap H ∧ R r H)

theorem FCall.mono {f : FuncId} {args : List SV} {R R' : SV → Heap → Prop} (h : FCall P f args R) (hr : ∀ r H, R r H → R' r H) : FCall P f args R' :=
  ⟨h.1, fun w vs hl => (h.2 w vs hl).mono (fun _ _ ⟨v, r, j, H, h1, h2, h3, h4, h5, h6, h7, h8⟩ => ⟨v, r, j, H, h1, h2, h3, h4, h5, h6, h7, hr _ _ h8⟩)⟩

theorem FCall.pcall {f : FuncId} {args : List SV} {R : SV → Heap → Prop} {T : SV} (h : FCall P f args R) (fu : Nat) (hr : ∀ r H, R r H → view H fu r = some T) : PCall P f args T := by
  refine ⟨h.1, fun w vs hl => (h.2 w vs hl).mono ?_⟩
  rintro e w' ⟨v, r, j, H, h1, h2, h3, h4, h5, h6, h7, h8⟩
  have hlive : Live (fun k => k < w.heap.size) j H w' := h3.liveN h7 (fun k hk => by have := h5 k hk; omega)
  exact ⟨v, h1, h2, view_sound hlive fu r T v (hr r H h8) (VRel.anyO r v h6 h4)⟩

/-- Of a heap a part. -/
structure Sub (H2 H : Heap) : Prop where
  nb : H2.nb = H.nb
  map : ∀ b, H2.map b = none ∨ H2.map b = H.map b

theorem Rel.sub {j : JMap} {H H2 : Heap} {w : World} (r : Rel j H w) (h : Sub H2 H) : Rel j H2 w := by
  have hm : ∀ b blk, H2.map b = some blk → H.map b = some blk := fun b blk hb => by
    rcases h.map b with e | e
    · rw [e] at hb; simp at hb
    · rw [← e]; exact hb
  have hsub : ∀ k, OwnR j H2 k → OwnR j H k := fun k ⟨b, blk, base, h1, h2⟩ => ⟨b, blk, base, hm b blk h1, h2⟩
  refine ⟨fun b p hp => by rw [h.nb]; exact r.dom b p hp, fun b blk hb => ?_, fun b b' k k' rb ba ba' h1 h2 h3 h4 => r.inj b b' k k' rb ba ba' (hm _ _ h1) (hm _ _ h2) h3 h4⟩
  obtain ⟨rb, base, h1, h2⟩ := r.live b blk (hm b blk hb)
  exact ⟨rb, base, h1, h2.tr (Tr.weaken w hsub) (fun _ _ h => h) rfl⟩

/-- What a body's end owes a contract. -/
def Fin (R : SV → Heap → Prop) (r : SV) (H : Heap) : Prop := ∃ H2, Sub H2 H ∧ noRow r = true ∧ nrHeap H2 ∧ R r H2

theorem noOwn_empty (k : Nat) : ¬ OwnR noj Heap.empty k := by rintro ⟨b, blk, base, h1, _⟩; simp [Heap.empty] at h1
theorem Rel.empty (w : World) : Rel noj Heap.empty w := ⟨fun b p h => by simp [noj] at h, fun b blk h => by simp [Heap.empty] at h, fun b b' k k' rb ba ba' h => by simp [Heap.empty] at h⟩

theorem Nx.below {j : JMap} {H : Heap} {w w' : World} (h : Nx noj Heap.empty w j H w') : Below w.heap.size w w' :=
  ⟨h.os, h.tape, h.output, h.size, fun k hk => h.keep k hk (noOwn_empty k)⟩

theorem FCall.of_body {f : FuncId} {fn : Func} {c : Code} {args : List SV} {R : SV → Heap → Prop} (hf : P.funcs[f]? = some fn) (hb : fn.body = some c) (hname : (fn.name == "runtime.NumGoroutine") = false) (hn : args.length ≤ fn.ntmps)
    (h : SW P fn.ntmps c (retQ P fn.results.toList (Fin R)) ⟨ofArgs args, Heap.empty⟩) : FCall P f args R := by
  refine ⟨enters_of hf hb hname, fun w vs hl => ?_⟩
  have hl' : LRel (OwnR noj Heap.empty) w noj args vs := LRel.tr (Tr.weaken w (fun k hk => (noOwn_empty k hk).elim)) (fun _ _ h => h) args vs hl
  refine (body_calls hf hb hn (Rel.empty w) hl' h).mono ?_
  rintro e w' ⟨r, v, j, H, rfl, h2, h3, h4, H2, h5, h6, h7, h8⟩
  have hsub : ∀ k, OwnR j H2 k → OwnR j H k := by
    rintro k ⟨b, blk, base, g1, g2⟩
    refine ⟨b, blk, base, ?_, g2⟩
    rcases h5.map b with e | e
    · rw [e] at g1; simp at g1
    · rw [← e]; exact g1
  refine ⟨v, r, j, H2, rfl, h4.below, h2.sub h5, VRel.anyO r v h6 h3, fun k hk => ?_, h6, h7, h8⟩
  rcases h4.own k (hsub k hk) with o | o
  · exact (noOwn_empty k o).elim
  · exact o

theorem Below.tr {O : Nat → Prop} {w w' : World} (h : Below w.heap.size w w') (O' : Nat → Prop) (hO : ∀ k, O' k → O k ∨ w.heap.size ≤ k) : Tr O w O' w' where
  cell a v hc ho := by
    have hlt := cell_lt hc
    exact ⟨by rw [cell_of_heap (h.block _ hlt), hc], fun o => (hO _ o).elim ho (fun g => by omega)⟩
  blk k c e fr hk := by
    refine ⟨c, e, fr, ?_, rfl⟩
    rw [h.block k ?_, hk]
    rcases Nat.lt_or_ge k w.heap.size with g | g
    · exact g
    · rw [Array.getElem?_eq_none g] at hk; simp at hk

theorem Rel.below {j : JMap} {H : Heap} {w w' : World} (r : Rel j H w) (h : Below w.heap.size w w') : Rel j H w' ∧ Nx j H w j H w' := by
  have nx : Nx j H w j H w' := ⟨h.os, h.tape, h.output, h.size, fun k hk _ => h.block k hk, fun k c e fr hk => (Below.tr h (OwnR j H) (fun _ o => .inl o)).blk k c e fr hk, fun _ _ => rfl, Nat.le_refl _, fun _ o => .inl o⟩
  refine ⟨⟨r.dom, fun b blk hb => ?_, r.inj⟩, nx⟩
  obtain ⟨rb, base, h1, h2⟩ := r.live b blk hb
  exact ⟨rb, base, h1, h2.tr nx.tr (fun _ _ h => h) (h.block _ (r.own_lt ⟨b, blk, base, hb, h1⟩))⟩

/-- A reader's contract at a call: the arguments seen as contents. -/
theorem PCall.callS {f : FuncId} {args args' : List SV} {T : SV} {H : Heap} (h : PCall P f args' T) (fu : Nat) (hv : viewL H fu args = some args') : CallS P f args H (fun r H' => r = T ∧ H' = H) := by
  refine ⟨h.1, fun j w vs r hl => ?_⟩
  have hl' := viewL_sound r.live0 fu args args' vs hv (LRel.tr (Tr.weaken w (fun _ h => h.elim)) (fun _ _ h => h) args vs hl)
  refine (h.2 w vs hl').mono ?_
  rintro e w' ⟨v, h1, h2, h3⟩
  obtain ⟨r', nx⟩ := r.below h2
  refine ⟨T, v, j, H, h1, r', ?_, nx, rfl, rfl⟩
  exact VRel.tr (Tr.weaken w' (fun k hk => r.own_lt hk)) (by intro b p h; simp [noj] at h) T v h3

def Heap.merge (H H' : Heap) : Heap := ⟨fun x => if x < H.nb then H.map x else (H'.map (x - H.nb)).map fun blk => ⟨shiftL H.nb blk.cells, blk.ex⟩, H.nb + H'.nb⟩
def JMap.merge (j : JMap) (n : Nat) (j' : JMap) : JMap := fun x => if x < n then j x else j' (x - n)

theorem shiftL_length (k : Nat) : ∀ ss : List SV, (shiftL k ss).length = ss.length
  | [] => by simp [shiftL]
  | s :: ss => by simp [shiftL, shiftL_length k ss]
theorem shiftL_get (k : Nat) : ∀ (ss : List SV) (i : Nat), (shiftL k ss)[i]? = (ss[i]?).map (shift k)
  | [], i => by simp [shiftL]
  | s :: ss, 0 => by simp [shiftL]
  | s :: ss, i + 1 => by simp [shiftL, shiftL_get k ss i]

theorem FCall.callS {f : FuncId} {args args' : List SV} {R : SV → Heap → Prop} {H : Heap} (h : FCall P f args' R) (fu : Nat) (hv : viewL H fu args = some args') :
    CallS P f args H (fun r H' => ∃ r0 H0, R r0 H0 ∧ r = shift H.nb r0 ∧ H' = H.merge H0) := by
  refine ⟨h.1, fun j w vs r hl => ?_⟩
  have hl' := viewL_sound r.live0 fu args args' vs hv (LRel.tr (Tr.weaken w (fun _ h => h.elim)) (fun _ _ h => h) args vs hl)
  refine (h.2 w vs hl').mono ?_
  rintro e w' ⟨v, r0, j0, H0, h1, h2, h3, h4, h5, h6, h7, h8⟩
  obtain ⟨r', nx0⟩ := r.below h2
  have hJold : ∀ b, b < H.nb → (j.merge H.nb j0) b = j b := fun b hb => by unfold JMap.merge; rw [if_pos hb]
  have hJnew : ∀ b p, j0 b = some p → (j.merge H.nb j0) (b + H.nb) = some p := fun b p hp => by unfold JMap.merge; rw [if_neg (by omega)]; simpa using hp
  have hown : ∀ k, OwnR (j.merge H.nb j0) (H.merge H0) k → OwnR j H k ∨ w.heap.size ≤ k := by
    rintro k ⟨b, blk, base, g1, g2⟩
    unfold Heap.merge at g1
    unfold JMap.merge at g2
    by_cases hb : b < H.nb
    · simp [hb] at g1 g2; exact .inl ⟨b, blk, base, g1, g2⟩
    · simp [hb] at g1 g2
      obtain ⟨blk', q1, q2⟩ := g1
      exact .inr (h5 k ⟨_, blk', base, q1, g2⟩)
  have nx : Nx j H w (j.merge H.nb j0) (H.merge H0) w' :=
    ⟨nx0.os, nx0.tape, nx0.output, nx0.size, nx0.keep, nx0.sizes, hJold, by simp [Heap.merge], hown⟩
  have hjm := nx.jmono r
  refine ⟨shift H.nb r0, v, j.merge H.nb j0, H.merge H0, h1, ⟨?_, ?_, ?_⟩, VRel.shift hJnew r0 v h6 h4, nx, r0, H0, h8, rfl, rfl⟩
  · intro b p hp
    unfold JMap.merge at hp
    by_cases hb : b < H.nb
    · simp [Heap.merge]; omega
    · simp [hb] at hp
      have := h3.dom _ _ hp
      simp [Heap.merge]; omega
  · intro b blk hb
    unfold Heap.merge at hb
    by_cases hlt : b < H.nb
    · simp [hlt] at hb
      obtain ⟨rb, base, g1, g2⟩ := r.live b blk hb
      exact ⟨rb, base, hjm _ _ g1, g2.tr nx.tr hjm (h2.block _ (r.own_lt ⟨b, blk, base, hb, g1⟩))⟩
    · simp [hlt] at hb
      obtain ⟨blk0, q1, rfl⟩ := hb
      obtain ⟨rb, base, g1, c, e, lo, hi, k1, k2, k3, k4, k5⟩ := h3.live _ blk0 q1
      refine ⟨rb, base, ?_, c, e, lo, hi, k1, k2, by simpa [shiftL_length] using k3, by simpa [shiftL_length] using k4, fun i s hs => ?_⟩
      · have := hJnew _ _ g1
        rwa [Nat.sub_add_cancel (by omega)] at this
      · rw [shiftL_get] at hs
        cases hs0 : blk0.cells[i]? with
        | none => rw [hs0] at hs; simp at hs
        | some s0 =>
          rw [hs0] at hs
          simp at hs; subst hs
          obtain ⟨u, p1, p2⟩ := k5 i s0 hs0
          exact ⟨u, p1, VRel.shift hJnew s0 u (noRowL_get (h7 _ blk0 q1) hs0) p2⟩
  · intro b b' k k' rb ba ba' g1 g2 g3 g4
    unfold Heap.merge at g1 g2
    unfold JMap.merge at g3 g4
    by_cases hb : b < H.nb <;> by_cases hb' : b' < H.nb
    · simp [hb, hb'] at g1 g2 g3 g4
      exact r.inj _ _ _ _ _ _ _ g1 g2 g3 g4
    · simp [hb, hb'] at g1 g2 g3 g4
      obtain ⟨blk', q1, q2⟩ := g2
      have := h5 rb ⟨_, blk', _, q1, g4⟩
      have := r.own_lt ⟨b, k, ba, g1, g3⟩
      omega
    · simp [hb, hb'] at g1 g2 g3 g4
      obtain ⟨blk', q1, q2⟩ := g1
      have := h5 rb ⟨_, blk', _, q1, g3⟩
      have := r.own_lt ⟨b', k', ba', g2, g4⟩
      omega
    · simp [hb, hb'] at g1 g2 g3 g4
      obtain ⟨x1, q1, _⟩ := g1
      obtain ⟨x2, q2, _⟩ := g2
      have := h3.inj _ _ _ _ _ _ _ q1 q2 g3 g4
      omega
end Go.Sh
