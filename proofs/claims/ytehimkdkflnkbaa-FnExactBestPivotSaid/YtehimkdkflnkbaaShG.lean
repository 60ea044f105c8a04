/-
  All operations under one name; regions in the order of the text; statements; calls.
-/
import Derived.Test.YtehimkdkflnkbaaShF
namespace Go.Sh
set_option linter.unusedSimpArgs false
set_option linter.unusedVariables false
open Go Go.RowKit
variable {P : Program}

def sbuiltin (P : Program) (H : Heap) (b : Builtin) (ats : List TypeId) (args : List SV) : Option (SV × Heap) :=
  match b with
  | .len => match ats, args with
    | [t], [x] => match slen P t x with | some s => some (s, H) | none => none
    | _, _ => none
  | .max => match sfold1 smax2 args with | some s => some (s, H) | none => none
  | .min => match sfold1 smin2 args with | some s => some (s, H) | none => none
  | .append => match args with
    | [s, x] => sappend P H ats s x
    | _ => none
  | .copy => match args with
    | [d, x] => scopy P H ats d x
    | _ => none
  | _ => none

def isIface (P : Program) (t : TypeId) : Option Bool := match P.underlying t with | some (.interface _) => some true | some _ => some false | none => none

def sop (P : Program) (H : Heap) (ρ : Operand → SV) : Op → Option (SV × Heap)
  | .move x => some (ρ x, H)
  | .assign x => some (ρ x, H)
  | .pick c a b => match ρ c with
    | .val (.bool t) => some (if t = true then ρ a else ρ b, H)
    | _ => none
  | .alloc t => salloc P H t
  | .box _ x => sbox H (ρ x)
  | .build t parts => match sbuild P t ρ parts.toList with | some s => some (s, H) | none => none
  | .buildSlice t n parts => sbuildSlice P H t n ρ parts.toList
  | .load t a => match sload P H t (ρ a) with | some s => some (s, H) | none => none
  | .store t a x => match sstore P H t (ρ a) (ρ x) with | some H' => some (.undef, H') | none => none
  | .nilCheck x => match ρ x with
    | .optr b o => some (.optr b o, H)
    | .rptr cs o => some (.rptr cs o, H)
    | .clos (.func f) a c => some (.clos (.func f) a c, H)
    | _ => none
  | .binOp op t x y _ => match sbin P op t (ρ x) (ρ y) with | some s => some (s, H) | none => none
  | .unOp op _ x => match sun op (ρ x) with | some s => some (s, H) | none => none
  | .convert a b x => match sconv P a b (ρ x) with | some s => some (s, H) | none => none
  | .makeInterface t x => match isIface P t with
    | some false => some (.iface t (ρ x), H)
    | _ => none
  | .makeFunc fn f c => some (.clos fn (f.toList.map ρ) (c.toList.map ρ), H)
  | .makeSlice t l c => smake P H t (ρ l) (ρ c)
  | .slice t x lo hi mx => match sslice P H t (ρ x) (lo.map ρ) (hi.map ρ) (mx.map ρ) with | some s => some (s, H) | none => none
  | .fieldAddr t x f => match sfieldAddr P t f (ρ x) with | some s => some (s, H) | none => none
  | .field t x f => match sfield P t f (ρ x) with | some s => some (s, H) | none => none
  | .indexAddr t x i => match sindexAddr P t (ρ x) (ρ i) with | some s => some (s, H) | none => none
  | .index t x i => match sindex P t (ρ x) (ρ i) with | some s => some (s, H) | none => none
  | .extract x i => match ρ x with
    | .tup vs => match vs[i]? with | some s => some (s, H) | none => none
    | _ => none
  | .call c => match c.callee with
    | .builtin b => sbuiltin P H b c.argTypes.toList (c.args.toList.map ρ)
    | _ => none
  | _ => none

/-- What one operation of the machine does, against the shadow's. -/
def OpSim (P : Program) (m : Sem Next) (j : JMap) (H : Heap) (w : World) (s : SV) (H' : Heap) : Prop :=
  ∃ v w' j', (m.run P w = .ok (.value v) w' ∨ (m.run P w = .ok .skip w' ∧ v = Go.undef)) ∧ Rel j' H' w' ∧ VRel (OwnR j' H') w' j' s v ∧ Nx j H w j' H' w'

theorem OpSim.of_sim {m : Sem Value} {j : JMap} {H H' : Heap} {w : World} {s : SV} (h : Sim P m j H w s H') : OpSim P (do pure (.value (← m))) j H w s H' := by
  obtain ⟨v, w', j', h1, h2, h3, h4⟩ := h
  exact ⟨v, w', j', .inl (by simp [h1]), h2, h3, h4⟩
theorem OpSim.of_run {m : Sem Value} {j : JMap} {H : Heap} {w : World} {s : SV} (r : Rel j H w) (h : ∃ v, m.run P w = .ok v w ∧ VRel (OwnR j H) w j s v) : OpSim P (do pure (.value (← m))) j H w s H := by
  obtain ⟨v, h1, h2⟩ := h
  exact OpSim.of_sim (Sim.same r h1 h2)
theorem OpSim.pure {j : JMap} {H : Heap} {w : World} {s : SV} {v : Value} (r : Rel j H w) (hv : VRel (OwnR j H) w j s v) : OpSim P (Pure.pure (.value v)) j H w s H :=
  ⟨v, w, j, .inl rfl, r, hv, Nx.refl _ _ _⟩

theorem isIface_under {t : TypeId} (h : isIface P t = some false) (x : Value) (w : World) : (Instr.makeInterface t x).run P w = .ok (.iface t x) w := by
  unfold isIface at h
  split at h
  · simp at h
  · rename_i d hd hu
    cases d <;> first | (simp [Instr.makeInterface, run_underlying hu]; done) | exact absurd rfl (hd _)
  · simp at h

theorem LRel.map_ops {O : Nat → Prop} {w : World} {j : JMap} {ρ : Operand → SV} {ρr : Operand → Value} : ∀ (xs : List Operand), (∀ x ∈ xs, VRel O w j (ρ x) (ρr x)) → LRel O w j (xs.map ρ) (xs.map ρr)
  | [], _ => by simp only [List.map_nil, LRel]
  | x :: xs, h => by simp only [List.map_cons, LRel]; exact ⟨_, _, rfl, h x (by simp), LRel.map_ops xs (fun y hy => h y (by simp [hy]))⟩

theorem smax2_run {O : Nat → Prop} {w : World} {j : JMap} : ∀ a b s va vb, smax2 a b = some s → VRel O w j a va → VRel O w j b vb → ∃ v, (Builtin.max2 va vb).run P w = .ok v w ∧ VRel O w j s v := by
  intro a b s va vb h ha hb
  unfold smax2 at h
  split at h
  · simp only [VRel] at ha hb; subst ha hb; simp at h; subst h
    exact ⟨_, by simp [Builtin.max2]; rfl, by simp only [VRel]⟩
  · simp at h
theorem smin2_run {O : Nat → Prop} {w : World} {j : JMap} : ∀ a b s va vb, smin2 a b = some s → VRel O w j a va → VRel O w j b vb → ∃ v, (Builtin.min2 va vb).run P w = .ok v w ∧ VRel O w j s v := by
  intro a b s va vb h ha hb
  unfold smin2 at h
  split at h
  · simp only [VRel] at ha hb; subst ha hb; simp at h; subst h
    exact ⟨_, by simp [Builtin.min2]; rfl, by simp only [VRel]⟩
  · simp at h

theorem sbuiltin_sound {j : JMap} {H H' : Heap} {w : World} {b : Builtin} {ats : Array TypeId} {ty : TypeId} {consts : Array Bool} {args : List SV} {vs : List Value} {s : SV} (h : sbuiltin P H b ats.toList args = some (s, H')) (r : Rel j H w)
    (hl : LRel (OwnR j H) w j args vs) : OpSim P (Go.builtin b ats ty consts vs.toArray) j H w s H' := by
  unfold sbuiltin at h
  split at h
  · split at h
    · rename_i t x hats
      split at h
      · rename_i s' hs
        simp at h; obtain ⟨rfl, rfl⟩ := h
        simp only [LRel] at hl
        obtain ⟨v, rest, rfl, h1, rfl⟩ := hl
        have e1 : ats = #[t] := by apply Array.ext'; simpa using hats
        subst e1
        exact OpSim.of_run r (slen_sound hs h1)
      · simp at h
    · simp at h
  · split at h
    · rename_i s' hs
      simp at h; obtain ⟨rfl, rfl⟩ := h
      cases args with
      | nil => simp [sfold1] at hs
      | cons x xs =>
        simp only [LRel] at hl
        obtain ⟨v, rest, rfl, h1, h2⟩ := hl
        refine OpSim.of_run r ?_
        obtain ⟨u, g1, g2⟩ := sfold_sound (P := P) smax2_run xs rest x v _ h2 h1 hs
        exact ⟨u, by simpa [Builtin.max_] using g1, g2⟩
    · simp at h
  · split at h
    · rename_i s' hs
      simp at h; obtain ⟨rfl, rfl⟩ := h
      cases args with
      | nil => simp [sfold1] at hs
      | cons x xs =>
        simp only [LRel] at hl
        obtain ⟨v, rest, rfl, h1, h2⟩ := hl
        refine OpSim.of_run r ?_
        obtain ⟨u, g1, g2⟩ := sfold_sound (P := P) smin2_run xs rest x v _ h2 h1 hs
        exact ⟨u, by simpa [Builtin.min_] using g1, g2⟩
    · simp at h
  · split at h
    · simp only [LRel] at hl
      obtain ⟨v, rest, rfl, h1, u, rest', rfl, h2, rfl⟩ := hl
      have := sappend_sound (ty := ty) h r h1 h2
      exact OpSim.of_sim (by simpa using this)
    · simp at h
  · split at h
    · simp only [LRel] at hl
      obtain ⟨v, rest, rfl, h1, u, rest', rfl, h2, rfl⟩ := hl
      have := scopy_sound (ty := ty) h r h1 h2
      exact OpSim.of_sim (by simpa using this)
    · simp at h
  · simp at h

theorem optMap_rel {O : Nat → Prop} {w : World} {j : JMap} {ρ : Operand → SV} {ρr : Operand → Value} (o : Option Operand) (h : ∀ x, o = some x → VRel O w j (ρ x) (ρr x)) :
    (∀ y, o.map ρ = some y → ∃ u, o.map ρr = some u ∧ VRel O w j y u) ∧ (o.map ρ = none → o.map ρr = none) := by
  cases o with
  | none => simp
  | some x => simp; exact h x rfl

theorem sop_sound {j : JMap} {H H' : Heap} {w : World} {ρ : Operand → SV} {ρr : Operand → Value} {s : SV} (o : Oper) (h : sop P H ρ o.op = some (s, H')) (r : Rel j H w) (hρ : ∀ x, VRel (OwnR j H) w j (ρ x) (ρr x)) :
    OpSim P (execOp ρr o) j H w s H' := by
  obtain ⟨dst, op, type, pos, after, guard⟩ := o
  cases op <;> simp only [sop] at h <;> simp only [execOp]
  case move x => simp at h; obtain ⟨rfl, rfl⟩ := h; exact OpSim.pure r (hρ x)
  case assign x => simp at h; obtain ⟨rfl, rfl⟩ := h; exact OpSim.pure r (hρ x)
  case pick c a b =>
    split at h
    · rename_i t ht
      simp at h; obtain ⟨rfl, rfl⟩ := h
      have hc := hρ c
      rw [ht] at hc
      simp only [VRel] at hc
      refine ⟨if t then ρr a else ρr b, w, j, .inl (by simp [hc, asBool]), r, ?_, Nx.refl _ _ _⟩
      cases t
      · simpa using hρ b
      · simpa using hρ a
    · simp at h
  case alloc t => exact OpSim.of_sim (salloc_sound h r)
  case box t x => exact OpSim.of_sim (sbox_sound h r (hρ x))
  case build t parts =>
    split at h
    · rename_i s' hs
      simp at h; obtain ⟨rfl, rfl⟩ := h
      exact OpSim.of_sim (sbuild_sound (ρr := ρr) hs r (fun p _ => hρ p.2))
    · simp at h
  case buildSlice t n parts => exact OpSim.of_sim (sbuildSlice_sound (ρr := ρr) h r (fun p _ => hρ p.2))
  case load t a =>
    split at h
    · rename_i s' hs
      simp at h; obtain ⟨rfl, rfl⟩ := h
      exact OpSim.of_sim (sload_sound hs r (hρ a))
    · simp at h
  case store t a x =>
    split at h
    · rename_i H1 hs
      simp at h; obtain ⟨rfl, rfl⟩ := h
      obtain ⟨w', h1, h2, h3⟩ := sstore_sound hs r (hρ a) (hρ x)
      exact ⟨Go.undef, w', j, .inr ⟨by simp [h1], rfl⟩, h2, by simp only [VRel], h3⟩
    · simp at h
  case nilCheck x =>
    have hx := hρ x
    split at h
    · rename_i b o he
      simp at h; obtain ⟨rfl, rfl⟩ := h
      rw [he] at hx
      have hx' := hx
      simp only [VRel] at hx
      obtain ⟨rb, base, _, e⟩ := hx
      refine ⟨ρr x, w, j, .inl (by rw [e]; rfl), r, hx', Nx.refl _ _ _⟩
    · rename_i cs o he
      simp at h; obtain ⟨rfl, rfl⟩ := h
      rw [he] at hx
      have hx' := hx
      simp only [VRel] at hx
      obtain ⟨a, e, _⟩ := hx
      refine ⟨ρr x, w, j, .inl (by rw [e]; rfl), r, hx', Nx.refl _ _ _⟩
    · rename_i f a c he
      simp at h; obtain ⟨rfl, rfl⟩ := h
      rw [he] at hx
      have hx' := hx
      simp only [VRel] at hx
      obtain ⟨us, vs, e, _⟩ := hx
      refine ⟨ρr x, w, j, .inl (by rw [e]; rfl), r, hx', Nx.refl _ _ _⟩
    · simp at h
  case binOp op t x y ty =>
    split at h
    · rename_i s' hs
      simp at h; obtain ⟨rfl, rfl⟩ := h
      exact OpSim.of_run r (sbin_sound hs (hρ x) (hρ y))
    · simp at h
  case unOp op t x =>
    split at h
    · rename_i s' hs
      simp at h; obtain ⟨rfl, rfl⟩ := h
      exact OpSim.of_run r (sun_sound hs (hρ x))
    · simp at h
  case convert a b x =>
    split at h
    · rename_i s' hs
      simp at h; obtain ⟨rfl, rfl⟩ := h
      exact OpSim.of_run r (sconv_sound hs (hρ x))
    · simp at h
  case makeInterface t x =>
    split at h
    · rename_i hs
      simp at h; obtain ⟨rfl, rfl⟩ := h
      exact OpSim.of_run r ⟨_, isIface_under hs _ _, by simp only [VRel]; exact ⟨_, rfl, hρ x⟩⟩
    · simp at h
  case makeFunc fn f c =>
    simp at h; obtain ⟨rfl, rfl⟩ := h
    refine OpSim.of_run r ⟨.func fn (f.map ρr) (c.map ρr), rfl, ?_⟩
    simp only [VRel]
    exact ⟨f.toList.map ρr, c.toList.map ρr, by rw [Value.func.injEq]; exact ⟨rfl, by apply Array.ext'; simp, by apply Array.ext'; simp⟩, LRel.map_ops _ (fun x _ => hρ x), LRel.map_ops _ (fun x _ => hρ x)⟩
  case makeSlice t l c => exact OpSim.of_sim (smake_sound h r (hρ l) (hρ c))
  case slice t x lo hi mx =>
    split at h
    · rename_i s' hs
      simp at h; obtain ⟨rfl, rfl⟩ := h
      have h1 := optMap_rel (ρ := ρ) (ρr := ρr) lo (fun x _ => hρ x)
      have h2 := optMap_rel (ρ := ρ) (ρr := ρr) hi (fun x _ => hρ x)
      have h3 := optMap_rel (ρ := ρ) (ρr := ρr) mx (fun x _ => hρ x)
      exact OpSim.of_sim (sslice_sound hs r (hρ x) h1.1 h1.2 h2.1 h2.2 h3.1 h3.2)
    · simp at h
  case fieldAddr t x f =>
    split at h
    · rename_i s' hs
      simp at h; obtain ⟨rfl, rfl⟩ := h
      exact OpSim.of_sim (sfieldAddr_sound hs r (hρ x))
    · simp at h
  case field t x f =>
    split at h
    · rename_i s' hs
      simp at h; obtain ⟨rfl, rfl⟩ := h
      exact OpSim.of_sim (sfield_sound hs r (hρ x))
    · simp at h
  case indexAddr t x i =>
    split at h
    · rename_i s' hs
      simp at h; obtain ⟨rfl, rfl⟩ := h
      exact OpSim.of_sim (sindexAddr_sound hs r (hρ x) (hρ i))
    · simp at h
  case index t x i =>
    split at h
    · rename_i s' hs
      simp at h; obtain ⟨rfl, rfl⟩ := h
      exact OpSim.of_sim (sindex_sound hs r (hρ x) (hρ i))
    · simp at h
  case extract x i =>
    split at h
    · rename_i vs he
      split at h
      · rename_i s' hs
        simp at h; obtain ⟨rfl, rfl⟩ := h
        have hx := hρ x
        rw [he] at hx
        simp only [VRel] at hx
        obtain ⟨us, e, hl⟩ := hx
        obtain ⟨u, g1, g2⟩ := hl.get hs
        refine OpSim.of_run r ⟨u, ?_, g2⟩
        rw [e]
        simp [Instr.extract, g1]
      · simp at h
    · simp at h
  case call c =>
    obtain ⟨callee, args, argTypes⟩ := c
    cases callee with
    | builtin b =>
      simp only [] at h
      have hl : LRel (OwnR j H) w j (args.toList.map ρ) (args.toList.map ρr) := LRel.map_ops _ (fun x _ => hρ x)
      have := sbuiltin_sound (ty := type) (consts := args.map fun | .const _ => true | _ => false) h r hl
      simp only [resolve, pure_bind, invoke]
      have e1 : (args.toList.map ρr).toArray = args.map ρr := by apply Array.ext'; simp
      rw [e1] at this
      exact this
    | value f => simp at h
    | invoke f m => simp at h
  all_goals simp at h
end Go.Sh
