/-
  Statements, loops, calls: what a function's body does, said of the shadow.
-/
import Derived.Test.YtehimkdkflnkbaaShG
namespace Go.Sh
set_option linter.unusedSimpArgs false
set_option linter.unusedVariables false
open Go Go.RowKit
variable {P : Program}

structure St where
  σ : Slots
  H : Heap

/-- The machine's frame and world against the shadow's state. n: the frame's size. -/
structure SAll (n : Nat) (j : JMap) (s : St) (a : Act) (w : World) : Prop where
  rel : Rel j s.H w
  slots : SRel (OwnR j s.H) w j s.σ a.tmps
  size : a.tmps.size = n
  defers : a.defers = []

theorem SRel.nx {j j' : JMap} {H H' : Heap} {w w' : World} {σ : Slots} {ts : Array Value} (r : Rel j H w) (h : Nx j H w j' H' w') (hs : SRel (OwnR j H) w j σ ts) : SRel (OwnR j' H') w' j' σ ts :=
  fun t => (hs t).nx r h

def dstOk (n : Nat) : Option Nat → Prop
  | some d => d < n
  | none => True

theorem SAll.put {n : Nat} {j j' : JMap} {s : St} {a : Act} {w w' : World} {H' : Heap} {dst : Option Nat} {x : SV} {v : Value} (h : SAll n j s a w) (hd : dstOk n dst) (r' : Rel j' H' w') (nx : Nx j s.H w j' H' w')
    (hv : VRel (OwnR j' H') w' j' x v) : SAll n j' ⟨updO s.σ dst x, H'⟩ (a.put dst v) w' := by
  have hs := h.slots.nx h.rel nx
  cases dst with
  | none => exact ⟨r', hs, h.size, h.defers⟩
  | some d =>
    have hd' : d < a.tmps.size := by rw [h.size]; exact hd
    exact ⟨r', hs.put hd' hv, by simp [Act.put, h.size], h.defers⟩

/-! ### Calls -/
def Enters (P : Program) (f : FuncId) : Prop := ∃ fn, P.funcs[f]? = some fn ∧ (fn.name == "runtime.NumGoroutine") = false ∧ fn.body.isNone = false

/-- A call of f at these arguments, whatever the real addresses: it returns; Q holds of the result and of the heap after it. -/
def CallS (P : Program) (f : FuncId) (args : List SV) (H : Heap) (Q : SV → Heap → Prop) : Prop :=
  Enters P f ∧ ∀ j w vs, Rel j H w → LRel (OwnR j H) w j args vs → Calls P f vs.toArray w (fun e w' => ∃ r v j' H', e = .returned v ∧ Rel j' H' w' ∧ VRel (OwnR j' H') w' j' r v ∧ Nx j H w j' H' w' ∧ Q r H')

theorem CallS.mono {f : FuncId} {args : List SV} {H : Heap} {Q Q' : SV → Heap → Prop} (h : CallS P f args H Q) (hq : ∀ r H', Q r H' → Q' r H') : CallS P f args H Q' :=
  ⟨h.1, fun j w vs hr hl => (h.2 j w vs hr hl).mono (fun _ _ ⟨r, v, j', H', h1, h2, h3, h4, h5⟩ => ⟨r, v, j', H', h1, h2, h3, h4, hq _ _ h5⟩)⟩

def userCall : Op → Option Call
  | .call c => match c.callee with
    | .builtin _ => none
    | _ => some c
  | _ => none

def wpCall (P : Program) (ρ : Operand → SV) (H : Heap) (c : Call) (K : SV → Heap → Prop) : Prop :=
  match c.callee with
  | .value x => match ρ x with
    | .clos (.func f) first captured => CallS P f (first ++ c.args.toList.map ρ ++ captured) H K
    | _ => False
  | _ => False

/-- One operation, then K. det: a call must leave the heap alone and its result must be known. -/
def opW (P : Program) (n : Nat) (det : Bool) (o : Oper) (s : St) (K : St → Prop) : Prop :=
  dstOk n o.dst ∧ match userCall o.op with
    | some c => match det with
      | false => wpCall P (sval s.σ) s.H c (fun r H' => K ⟨updO s.σ o.dst r, H'⟩)
      | true => ∃ r, wpCall P (sval s.σ) s.H c (fun r' H' => r' = r ∧ H' = s.H) ∧ K ⟨updO s.σ o.dst r, s.H⟩
    | none => match sop P s.H (sval s.σ) o.op with
      | some (r, H') => K ⟨updO s.σ o.dst r, H'⟩
      | none => False

theorem wpCall.mono {ρ : Operand → SV} {H : Heap} {c : Call} {K K' : SV → Heap → Prop} (h : wpCall P ρ H c K) (hk : ∀ r H', K r H' → K' r H') : wpCall P ρ H c K' := by
  unfold wpCall at h ⊢
  split at h
  · split at h
    · exact h.mono hk
    · exact h
  · exact h

theorem opW_nondet {n : Nat} {det : Bool} {o : Oper} {s : St} {K : St → Prop} (h : opW P n det o s K) : opW P n false o s K := by
  cases det with
  | false => exact h
  | true =>
    obtain ⟨hd, h⟩ := h
    refine ⟨hd, ?_⟩
    split at h
    · obtain ⟨r, h1, h2⟩ := h
      exact h1.mono (fun r' H' ⟨e1, e2⟩ => by rw [e1, e2]; exact h2)
    · exact h

theorem callFunc_run {f : FuncId} (h : Enters P f) (args : Array Value) (w : World) : (callFunc f args).run P w = .ok (.enter f args) w := by
  obtain ⟨fn, h1, h2, h3⟩ := h
  simp only [callFunc, Sem.run_bind, run_program, Result.andThen_ok, h1, h2, h3, Bool.false_eq_true, if_false, Sem.run_pure]

theorem opW_sound {n : Nat} {o : Oper} {s : St} {K : St → Prop} {j : JMap} {a : Act} {w : World} {next : Act → World → Prop} {Q : Exit → Act → World → Prop} (h : opW P n false o s K) (ha : SAll n j s a w)
    (hk : ∀ j' s' a' w', SAll n j' s' a' w' → Nx j s.H w j' s'.H w' → K s' → next a' w') : o.wp P a w next Q := by
  obtain ⟨hd, h⟩ := h
  have hev : ∀ x, VRel (OwnR j s.H) w j (sval s.σ x) (a.eval x) := fun x => ha.slots.eval x
  split at h
  · rename_i c hc
    obtain ⟨dst, op, type, pos, after, guard⟩ := o
    cases op <;> simp only [userCall] at hc <;> try (simp at hc; done)
    rename_i c'
    obtain ⟨callee, args, argTypes⟩ := c'
    cases callee with
    | builtin b => simp at hc
    | invoke f m => simp at hc; subst hc; simp [wpCall] at h
    | value x =>
      simp at hc; subst hc
      simp only [wpCall] at h
      split at h
      · rename_i f first captured he
        obtain ⟨hen, hcall⟩ := h
        have hx := hev x
        rw [he] at hx
        simp only [VRel] at hx
        obtain ⟨us, vs, hxe, hl1, hl2⟩ := hx
        have hargs : LRel (OwnR j s.H) w j (args.toList.map (sval s.σ)) (args.toList.map a.eval) := LRel.map_ops _ (fun x _ => hev x)
        have hC := hcall j w (us ++ args.toList.map a.eval ++ vs) ha.rel ((hl1.append hargs).append hl2)
        have earr : (us ++ args.toList.map a.eval ++ vs).toArray = us.toArray ++ args.map a.eval ++ vs.toArray := by apply Array.ext'; simp
        rw [earr] at hC
        have hrun : (execOp a.eval ⟨dst, .call ⟨.value x, args, argTypes⟩, type, pos, after, guard⟩).run P w = .ok (.enter f (us.toArray ++ args.map a.eval ++ vs.toArray)) w := by
          simp only [execOp, resolve, hxe, Deferred.ofValue, pure_bind, invoke]
          exact callFunc_run hen _ w
        unfold Oper.wp
        rw [hrun, Oper.upon_enter]
        refine hC.mono ?_
        rintro e w' ⟨r, v, j', H', rfl, h2, h3, h4, h5⟩
        exact hk j' ⟨updO s.σ dst r, H'⟩ (a.put dst v) w' (ha.put hd h2 h4 h3) h4 h5
      · exact h.elim
  · split at h
    · rename_i r H' hs
      obtain ⟨v, w', j', h1, h2, h3, h4⟩ := sop_sound o hs ha.rel hev
      unfold Oper.wp
      rcases h1 with h1 | ⟨h1, rfl⟩
      · rw [h1, Oper.upon_value]
        exact hk j' ⟨updO s.σ o.dst r, H'⟩ _ w' (ha.put hd h2 h4 h3) h4 h
      · rw [h1, Oper.upon_skip]
        exact hk j' ⟨updO s.σ o.dst r, H'⟩ _ w' (ha.put hd h2 h4 h3) h4 h
    · exact h.elim

/-! ### Regions in the text's order -/
/-- A guard's word: carried out, left out, or not known. -/
def gd : SV → Bool → Option Bool
  | .val (.bool b), w => some (b == w)
  | .tup [], _ => some false
  | _, _ => none
def opsW (P : Program) (n : Nat) (det : Bool) (ops : Array Oper) : List Oper → St → (St → Prop) → Prop
  | [], s, K => K s
  | o :: rest, s, K => match o.guard with
    | none => opW P n det o s (fun s' => opsW P n det ops rest s' K)
    | some (g, want) => match (ops[g]?).bind (·.dst) with
      | some d => match gd (s.σ d) want with
        | some true => opW P n det o s (fun s' => opsW P n det ops rest s' K)
        | some false => dstOk n o.dst ∧ opsW P n det ops rest ⟨updO s.σ o.dst (.tup []), s.H⟩ K
        | none => False
      | none => False

theorem yielded_of {n : Nat} {j : JMap} {s : St} {a : Act} {w : World} {ops : Array Oper} {g d : Nat} {b : Bool} (ha : SAll n j s a w) (hg : (ops[g]?).bind (·.dst) = some d) (hb : s.σ d = .val (.bool b)) :
    yielded ops a.tmps g = some b := by
  have := ha.slots d
  rw [hb] at this
  simp only [VRel] at this
  have h2 : a.tmps[d]? = some (.bool b) := by
    rw [Array.getD_eq_getD_getElem?] at this
    cases hx : a.tmps[d]? with
    | none => rw [hx] at this; simp [Go.undef] at this
    | some v => rw [hx] at this; simp at this; rw [this]
  simp [yielded, hg, h2]

theorem gd_of {n : Nat} {j : JMap} {s : St} {a : Act} {w : World} {ops : Array Oper} {o : Oper} {g d : Nat} {want b : Bool} (ha : SAll n j s a w) (hg : o.guard = some (g, want)) (hd : (ops[g]?).bind (·.dst) = some d) (hb : gd (s.σ d) want = some b) :
    Region.wanted o (yielded ops a.tmps) = b := by
  unfold gd at hb
  split at hb
  · rename_i b' w' hs
    have hy := yielded_of (ops := ops) ha hd hs
    simp at hb; subst hb
    simp [Region.wanted, hg, hy]
  · rename_i w' hs
    simp at hb; subst hb
    have := ha.slots d
    rw [hs] at this
    simp only [VRel, LRel] at this
    obtain ⟨vs, h1, rfl⟩ := this
    have hy : yielded ops a.tmps g = none := by
      unfold yielded
      rw [hd]
      show (match a.tmps[d]? with | some (.bool b) => some b | _ => none) = none
      rw [Array.getD_eq_getD_getElem?] at h1
      cases hx : a.tmps[d]? with
      | none => rfl
      | some v => rw [hx] at h1; simp at h1; rw [h1]
    simp [Region.wanted, hg, hy]
  · cases hb
theorem VRel.undef {O : Nat → Prop} {w : World} {j : JMap} : VRel O w j (.tup []) Go.undef := by
  simp only [VRel, LRel]
  exact ⟨[], rfl, rfl⟩

theorem opsW_sound {n : Nat} {ops : Array Oper} {K : St → Prop} {Q : Exit → Act → World → Prop} : ∀ (rest : List Oper) (i : Nat) (_ : ∀ k, rest[k]? = ops[i + k]?) (s : St) (j : JMap) (a : Act) (w : World) (_ : opsW P n false ops rest s K)
    (_ : SAll n j s a w) (_ : ∀ j' s' a' w', SAll n j' s' a' w' → Nx j s.H w j' s'.H w' → K s' → Q .normal a' w'), wpOps P ops Q (List.range' i rest.length) a w
  | [], i, _, s, j, a, w, h, ha, hk => by
    simp only [List.length_nil, List.range'_zero, wpOps]
    exact hk j s a w ha (Nx.refl _ _ _) h
  | o :: rest, i, hops, s, j, a, w, h, ha, hk => by
    have ho : ops[i]? = some o := by simpa using (hops 0).symm
    have hrest : ∀ k, rest[k]? = ops[i + 1 + k]? := fun k => by
      have := hops (k + 1)
      simpa [Nat.add_assoc, Nat.add_comm 1 k] using this
    simp only [List.length_cons, List.range'_succ, wpOps, ho]
    simp only [opsW] at h
    split at h
    · rename_i hg
      have hw : Region.wanted o (yielded ops a.tmps) = true := by simp [Region.wanted, hg]
      rw [if_pos hw]
      left
      refine opW_sound h ha (fun j' s' a' w' ha' nx hK => ?_)
      exact opsW_sound rest (i + 1) hrest s' j' a' w' hK ha' (fun j'' s'' a'' w'' h1 h2 h3 => hk j'' s'' a'' w'' h1 (nx.trans h2) h3)
    · rename_i g want hg
      split at h
      · rename_i d hd
        split at h
        · rename_i hb
          have hw : Region.wanted o (yielded ops a.tmps) = true := gd_of ha hg hd hb
          rw [if_pos hw]
          left
          refine opW_sound h ha (fun j' s' a' w' ha' nx hK => ?_)
          exact opsW_sound rest (i + 1) hrest s' j' a' w' hK ha' (fun j'' s'' a'' w'' h1 h2 h3 => hk j'' s'' a'' w'' h1 (nx.trans h2) h3)
        · rename_i hb
          have hw : ¬ Region.wanted o (yielded ops a.tmps) = true := by rw [gd_of ha hg hd hb]; simp
          rw [if_neg hw]
          obtain ⟨hd', h⟩ := h
          exact opsW_sound rest (i + 1) hrest _ j _ w h (ha.put hd' ha.rel (Nx.refl _ _ _) VRel.undef) hk
        · exact h.elim
      · exact h.elim

/-! ### Statements -/
def SW (P : Program) (n : Nat) (c : Code) (Q : Exit → St → Prop) (s : St) : Prop :=
  ∀ j a w, SAll n j s a w → c.wp P (fun e a' w' => ∃ j' s', SAll n j' s' a' w' ∧ Nx j s.H w j' s'.H w' ∧ Q e s') a w

theorem SW.mono {n : Nat} {c : Code} {Q Q' : Exit → St → Prop} {s : St} (h : SW P n c Q s) (hq : ∀ e s', Q e s' → Q' e s') : SW P n c Q' s :=
  fun j a w ha => wp_mono (h j a w ha) (fun _ _ _ ⟨j', s', h1, h2, h3⟩ => ⟨j', s', h1, h2, hq _ _ h3⟩)

def seqQ (next : St → Prop) (Q : Exit → St → Prop) : Exit → St → Prop
  | .normal, s => next s
  | e, s => Q e s
def blockQ (id : Nat) (Q : Exit → St → Prop) : Exit → St → Prop
  | .exit id', s => if id' = id then Q .normal s else Q (.exit id') s
  | e, s => Q e s

theorem SW.seq {n : Nat} {x y : Code} {Q : Exit → St → Prop} {s : St} (h : SW P n x (seqQ (fun s' => SW P n y Q s') Q) s) : SW P n (.seq x y) Q s := by
  intro j a w ha
  refine wp_seq (wp_mono (h j a w ha) ?_)
  rintro e a1 w1 ⟨j1, s1, h1, h2, h3⟩
  cases e with
  | normal =>
    refine wp_mono (h3 j1 a1 w1 h1) ?_
    rintro e a2 w2 ⟨j2, s2, g1, g2, g3⟩
    exact ⟨j2, s2, g1, h2.trans g2, g3⟩
  | _ => exact ⟨j1, s1, h1, h2, h3⟩

theorem SW.block {n : Nat} {id : Nat} {c : Code} {Q : Exit → St → Prop} {s : St} (h : SW P n c (blockQ id Q) s) : SW P n (.block id c) Q s := by
  intro j a w ha
  refine wp_block (wp_mono (h j a w ha) ?_)
  rintro e a1 w1 ⟨j1, s1, h1, h2, h3⟩
  cases e with
  | exit id' =>
    simp only [blockQ] at h3
    simp only [Exit.inBlock]
    by_cases hid : id' = id
    · rw [if_pos hid] at h3 ⊢; exact ⟨j1, s1, h1, h2, h3⟩
    · rw [if_neg hid] at h3 ⊢; exact ⟨j1, s1, h1, h2, h3⟩
  | _ => exact ⟨j1, s1, h1, h2, h3⟩

theorem SW.cond {n : Nat} {c : Operand} {x y : Code} {Q : Exit → St → Prop} {s : St} {b : Bool} (hc : sval s.σ c = .val (.bool b)) (h1 : b = true → SW P n x Q s) (h2 : b = false → SW P n y Q s) : SW P n (.cond c x y) Q s := by
  intro j a w ha
  have := ha.slots.eval c
  rw [hc] at this
  simp only [VRel] at this
  exact wp_cond_split this (fun e => h1 e j a w ha) (fun e => h2 e j a w ha)

theorem SW.skip {n : Nat} {Q : Exit → St → Prop} {s : St} (h : Q .normal s) : SW P n .skip Q s := fun j _ _ ha => wp_skip ⟨j, s, ha, Nx.refl _ _ _, h⟩
theorem SW.label {n : Nat} {l : Nat} {Q : Exit → St → Prop} {s : St} (h : Q .normal s) : SW P n (.label l) Q s := fun j _ _ ha => wp_label ⟨j, s, ha, Nx.refl _ _ _, h⟩
theorem SW.exit {n : Nat} {id : Nat} {Q : Exit → St → Prop} {s : St} (h : Q (.exit id) s) : SW P n (.exit id) Q s := fun j _ _ ha => wp_exit ⟨j, s, ha, Nx.refl _ _ _, h⟩
theorem SW.ret {n : Nat} {Q : Exit → St → Prop} {s : St} (h : Q .ret s) : SW P n .ret Q s := fun j _ _ ha => wp_ret ⟨j, s, ha, Nx.refl _ _ _, h⟩

theorem SW.region {n : Nat} {id : Nat} {ops : Array Oper} {Q : Exit → St → Prop} {s : St} (h : opsW P n false ops ops.toList s (Q .normal)) : SW P n (.region id ops false) Q s := by
  intro j a w ha
  refine wp_region ?_
  rw [List.range_eq_range', show ops.size = ops.toList.length by simp]
  exact opsW_sound ops.toList 0 (fun k => by simp) s j a w h ha (fun j' s' a' w' h1 h2 h3 => ⟨j', s', h1, h2, h3⟩)

/-- Less is known: of the slots; of the heap, whose blocks may be fewer. -/
structure Wk (s s' : St) : Prop where
  slots : ∀ t, s'.σ t = .undef ∨ s'.σ t = s.σ t
  nb : s.H.nb ≤ s'.H.nb
  map : ∀ b, s'.H.map b = none ∨ s'.H.map b = s.H.map b

theorem Wk.own {s s' : St} (k : Wk s s') {j : JMap} {x : Nat} (h : OwnR j s'.H x) : OwnR j s.H x := by
  obtain ⟨b, blk, base, h1, h2⟩ := h
  refine ⟨b, blk, base, ?_, h2⟩
  rcases k.map b with e | e
  · rw [e] at h1; simp at h1
  · rw [← e]; exact h1

theorem Wk.rel {s s' : St} (k : Wk s s') {j : JMap} {w : World} (r : Rel j s.H w) : Rel j s'.H w := by
  have hm : ∀ b blk, s'.H.map b = some blk → s.H.map b = some blk := fun b blk hb => by
    rcases k.map b with e | e
    · rw [e] at hb; simp at hb
    · rw [← e]; exact hb
  refine ⟨fun b p hp => Nat.lt_of_lt_of_le (r.dom b p hp) k.nb, fun b blk hb => ?_, fun b b' k k' rb ba ba' h1 h2 h3 h4 => r.inj b b' k k' rb ba ba' (hm _ _ h1) (hm _ _ h2) h3 h4⟩
  obtain ⟨rb, base, h1, h2⟩ := r.live b blk (hm b blk hb)
  exact ⟨rb, base, h1, h2.tr (Tr.weaken w (fun _ h => k.own h)) (fun _ _ h => h) rfl⟩

theorem SAll.wk {n : Nat} {j : JMap} {s s' : St} {a : Act} {w : World} (h : SAll n j s a w) (k : Wk s s') : SAll n j s' a w := by
  refine ⟨k.rel h.rel, fun t => ?_, h.size, h.defers⟩
  rcases k.slots t with e | e
  · rw [e]; simp only [VRel]
  · rw [e]; exact VRel.tr (Tr.weaken w (fun _ h => k.own h)) (fun _ _ h => h) _ _ (h.slots t)

theorem Wk.nx {s s' : St} (k : Wk s s') {j j1 : JMap} {H1 : Heap} {w w1 : World} (h : Nx j s'.H w j1 H1 w1) : Nx j s.H w j1 H1 w1 :=
  ⟨h.os, h.tape, h.output, h.size, fun x hx ho => h.keep x hx (fun o => ho (k.own o)), h.sizes, fun b hb => h.jle b (Nat.lt_of_lt_of_le hb k.nb), Nat.le_trans k.nb h.nble, fun x hx => (h.own x hx).imp k.own id⟩
theorem Wk.nx' {s s' : St} (k : Wk s s') {j j1 : JMap} {H : Heap} {w w1 : World} (h : Nx j H w j1 s.H w1) : Nx j H w j1 s'.H w1 :=
  ⟨h.os, h.tape, h.output, h.size, h.keep, h.sizes, h.jle, Nat.le_trans h.nble k.nb, fun x hx => h.own x (k.own hx)⟩

theorem SW.wk {n : Nat} {c : Code} {Q : Exit → St → Prop} {s s' : St} (k : Wk s s') (h : SW P n c Q s') : SW P n c Q s := by
  intro j a w ha
  refine wp_mono (h j a w (ha.wk k)) ?_
  rintro e a1 w1 ⟨j1, s1, h1, h2, h3⟩
  exact ⟨j1, s1, h1, k.nx h2, h3⟩

/-- A loop: I x is what holds at the head, F x the state there, μ goes down. -/
theorem SW.loop {n : Nat} {c : Code} {Q : Exit → St → Prop} {s : St} {ι : Type} (F : ι → St) (I : ι → Prop) (μ : ι → Nat) (x0 : ι) (h0 : I x0) (hs : Wk s (F x0))
    (round : ∀ x, I x → SW P n c (seqQ (fun s' => ∃ y, I y ∧ μ y < μ x ∧ Wk s' (F y)) Q) (F x)) : SW P n (.loop c) Q s := by
  intro j a w ha
  let J : Nat → Act → World → Prop := fun m a' w' => ∃ j' x, I x ∧ μ x = m ∧ SAll n j' (F x) a' w' ∧ Nx j s.H w j' (F x).H w'
  have hex : ∀ a' w', (∃ m, J m a' w') → ∃ m, J m a' w' ∧ ∀ k, J k a' w' → m ≤ k := by
    rintro a' w' ⟨m, hm⟩
    induction m using Nat.strongRecOn with
    | _ m ih =>
      by_cases hlt : ∃ k, k < m ∧ J k a' w'
      · obtain ⟨k, hk, hk'⟩ := hlt
        exact ih k hk hk'
      · refine ⟨m, hm, fun k hk => ?_⟩
        rcases Nat.lt_or_ge k m with h | h
        · exact absurd ⟨k, h, hk⟩ hlt
        · exact h
  let ν : Act → World → Nat := fun a' w' => open Classical in if h : ∃ m, J m a' w' then Classical.choose (hex a' w' h) else 0
  have hν : ∀ a' w', (∃ m, J m a' w') → J (ν a' w') a' w' ∧ ∀ k, J k a' w' → ν a' w' ≤ k := by
    intro a' w' h
    simp only [ν, dif_pos h]
    exact Classical.choose_spec (hex a' w' h)
  refine wp_loop (fun a' w' => ∃ m, J m a' w') ν ⟨μ x0, j, x0, h0, rfl, ha.wk hs, hs.nx' (Nx.refl _ _ _)⟩ ?_
  intro a1 w1 hJ
  obtain ⟨⟨j1, x, hI, hm, h1, h2⟩, hmin⟩ := hν a1 w1 hJ
  refine wp_mono (round x hI j1 a1 w1 h1) ?_
  rintro e a2 w2 ⟨j2, s2, g1, g2, g3⟩
  cases e with
  | normal =>
    obtain ⟨y, k1, k2, k3⟩ := g3
    have hJ2 : J (μ y) a2 w2 := ⟨j2, y, k1, rfl, g1.wk k3, k3.nx' (h2.trans g2)⟩
    refine ⟨⟨_, hJ2⟩, ?_⟩
    have := (hν a2 w2 ⟨_, hJ2⟩).2 _ hJ2
    omega
  | _ => exact ⟨j2, s2, g1, h2.trans g2, g3⟩

/-! ### From a body to a call -/
def ofArgs : List SV → Slots
  | [], _ => .undef
  | s :: _, 0 => s
  | _ :: ss, t + 1 => ofArgs ss t

theorem ofArgs_rel {O : Nat → Prop} {w : World} {j : JMap} : ∀ {ss : List SV} {vs : List Value} (m : Nat), LRel O w j ss vs → SRel O w j (ofArgs ss) (vs.toArray ++ Array.replicate m Go.undef)
  | ss, vs, m, h, t => by
    have hof : ∀ (ss : List SV) (t : Nat), ofArgs ss t = ss.getD t .undef := by
      intro ss
      induction ss with
      | nil => intro t; cases t <;> rfl
      | cons s ss ih => intro t; cases t with
        | zero => rfl
        | succ t => simpa [ofArgs] using ih t
    rw [hof]
    cases hs : ss[t]? with
    | none => rw [List.getD_eq_getElem?_getD, hs]; simp only [Option.getD_none, VRel]
    | some s =>
      obtain ⟨v, h1, h2⟩ := h.get hs
      have hlt : t < vs.length := by
        rcases Nat.lt_or_ge t vs.length with h | h
        · exact h
        · rw [List.getElem?_eq_none h] at h1; simp at h1
      rw [List.getD_eq_getElem?_getD, hs, Array.getD_eq_getD_getElem?, Array.getElem?_append_left (by simpa using hlt)]
      simpa [h1] using h2

def sresult (P : Program) (s : St) : ResultVar → Option SV
  | .tmp t => some (s.σ t)
  | .cell a t => sload P s.H t (s.σ a)
def sresults1 (P : Program) (s : St) : List ResultVar → Option (List SV)
  | [] => some []
  | r :: rs => match sresult P s r, sresults1 P s rs with
    | some x, some xs => some (x :: xs)
    | _, _ => none
def sresults (P : Program) (s : St) (rs : List ResultVar) : Option SV :=
  match sresults1 P s rs with
  | some [x] => some x
  | some xs => some (.tup xs)
  | none => none

def resOf (tmps : Array Value) : ResultVar → Sem Value
  | .tmp t => pure (tmps.getD t Go.undef)
  | .cell ad t => do loadVar t (← asAddr (tmps.getD ad Go.undef))
theorem results_eq (fn : Func) (tmps : Array Value) : results fn tmps = (do
    let vs ← fn.results.mapM (resOf tmps)
    pure (if h : vs.size = 1 then vs[0] else .tuple vs)) := by
  unfold results
  congr 1

theorem sresults1_run {n : Nat} {j : JMap} {s : St} {a : Act} {w : World} (ha : SAll n j s a w) : ∀ (rs : List ResultVar) (xs : List SV), sresults1 P s rs = some xs →
    ∃ vs, (rs.mapM (resOf a.tmps)).run P w = .ok vs w ∧ LRel (OwnR j s.H) w j xs vs
  | [], xs, h => by simp [sresults1] at h; subst h; exact ⟨[], by simp, by simp only [LRel]⟩
  | r :: rs, xs, h => by
    simp only [sresults1] at h
    split at h
    · rename_i x ys hx hys
      simp at h; subst h
      obtain ⟨vs, h1, h2⟩ := sresults1_run ha rs ys hys
      cases r with
      | tmp t =>
        simp [sresult] at hx; subst hx
        refine ⟨a.tmps.getD t Go.undef :: vs, ?_, by simp only [LRel]; exact ⟨_, _, rfl, ha.slots t, h2⟩⟩
        simp only [List.mapM_cons, resOf, Sem.run_bind, Sem.run_pure, Result.andThen_ok, h1]
      | cell ad t =>
        simp only [sresult] at hx
        obtain ⟨p, u, hp, g1, g2⟩ := sload_var hx ha.rel (ha.slots ad)
        refine ⟨u :: vs, ?_, by simp only [LRel]; exact ⟨_, _, rfl, g2, h2⟩⟩
        have e : (resOf a.tmps (.cell ad t)).run P w = .ok u w := by simp [resOf, hp, asAddr, g1]
        simp only [List.mapM_cons, Sem.run_bind, Sem.run_pure, Result.andThen_ok, h1, e]
    · simp at h

theorem sresults_run {n : Nat} {j : JMap} {s : St} {a : Act} {w : World} {fn : Func} {r : SV} (ha : SAll n j s a w) (h : sresults P s fn.results.toList = some r) : ∃ v, (results fn a.tmps).run P w = .ok v w ∧ VRel (OwnR j s.H) w j r v := by
  unfold sresults at h
  have key : ∀ xs, sresults1 P s fn.results.toList = some xs → ∃ vs, (results fn a.tmps).run P w = .ok (if h : vs.toArray.size = 1 then vs.toArray[0] else .tuple vs.toArray) w ∧ LRel (OwnR j s.H) w j xs vs := by
    intro xs hx
    obtain ⟨vs, h1, h2⟩ := sresults1_run ha _ xs hx
    refine ⟨vs, ?_, h2⟩
    rw [results_eq, Array.mapM_eq_mapM_toList]
    simp only [Sem.run_bind, Sem.run_map, h1, Result.andThen_ok, Sem.run_pure]
  split at h
  · rename_i x hx
    simp at h; subst h
    obtain ⟨vs, h1, h2⟩ := key _ hx
    simp only [LRel] at h2
    obtain ⟨v, rest, rfl, h3, rfl⟩ := h2
    exact ⟨v, by simpa using h1, h3⟩
  · rename_i xs hne hx
    simp at h; subst h
    obtain ⟨vs, h1, h2⟩ := key _ hx
    have hl := h2.length
    refine ⟨.tuple vs.toArray, ?_, by simp only [VRel]; exact ⟨vs, rfl, h2⟩⟩
    have : ¬ vs.toArray.size = 1 := by
      intro he
      simp at he
      rw [hl] at he
      obtain ⟨y, rfl⟩ := List.length_eq_one_iff.1 he
      exact hne y rfl
    rw [h1, dif_neg this]
  · simp at h

/-- What must hold where a body ends. -/
def retQ (P : Program) (rs : List ResultVar) (R : SV → Heap → Prop) : Exit → St → Prop
  | .ret, s => match sresults P s rs with | some r => R r s.H | none => False
  | .normal, s => match sresults P s rs with | some r => R r s.H | none => False
  | _, _ => False

theorem ofArgs_all {j : JMap} {H : Heap} {w : World} {args : List SV} {vs : List Value} {n : Nat} (r : Rel j H w) (hl : LRel (OwnR j H) w j args vs) (hn : args.length ≤ n) :
    SAll n j ⟨ofArgs args, H⟩ { tmps := vs.toArray ++ Array.replicate (n - vs.toArray.size) Go.undef, defers := [] } w := by
  refine ⟨r, ofArgs_rel _ hl, ?_, rfl⟩
  have := hl.length
  simp
  omega

/-- The real run of a body, out of the shadow's. -/
theorem body_calls {f : FuncId} {fn : Func} {c : Code} {args : List SV} {vs : List Value} {j : JMap} {H : Heap} {w : World} {R : SV → Heap → Prop} (hf : P.funcs[f]? = some fn) (hb : fn.body = some c) (hn : args.length ≤ fn.ntmps)
    (r : Rel j H w) (hl : LRel (OwnR j H) w j args vs) (h : SW P fn.ntmps c (retQ P fn.results.toList R) ⟨ofArgs args, H⟩) :
    Calls P f vs.toArray w (fun e w' => ∃ r v j' H', e = .returned v ∧ Rel j' H' w' ∧ VRel (OwnR j' H') w' j' r v ∧ Nx j H w j' H' w' ∧ R r H') := by
  refine calls_of_wp hf hb (wp_mono (h j _ w (ofArgs_all r hl hn)) ?_)
  rintro e a' w' ⟨j', s', h1, h2, h3⟩
  have fin : (∃ x, sresults P s' fn.results.toList = some x ∧ R x s'.H) → a'.defers = [] ∧ ∃ v, (results fn a'.tmps).run P w' = .ok v w' ∧ ∃ r u j'' H', Ending.returned v = .returned u ∧ Rel j'' H' w' ∧ VRel (OwnR j'' H') w' j'' r u ∧ Nx j H w j'' H' w' ∧ R r H' := by
    rintro ⟨x, g1, g2⟩
    obtain ⟨v, k1, k2⟩ := sresults_run (fn := fn) h1 g1
    exact ⟨h1.defers, v, k1, x, v, j', s'.H, rfl, h1.rel, k2, h2, g2⟩
  cases e with
  | normal =>
    simp only [retQ] at h3
    split at h3
    · rename_i x hx; exact fin ⟨x, hx, h3⟩
    · exact h3.elim
  | ret =>
    simp only [retQ] at h3
    split at h3
    · rename_i x hx; exact fin ⟨x, hx, h3⟩
    · exact h3.elim
  | _ => exact h3.elim

theorem enters_of {f : FuncId} {fn : Func} {c : Code} (hf : P.funcs[f]? = some fn) (hb : fn.body = some c) (hname : (fn.name == "runtime.NumGoroutine") = false) : Enters P f := ⟨fn, hf, hname, by simp [hb]⟩

/-- A contract over any heap, out of the body. -/
theorem CallS.of_body {f : FuncId} {fn : Func} {c : Code} {args : List SV} {H : Heap} {R : SV → Heap → Prop} (hf : P.funcs[f]? = some fn) (hb : fn.body = some c) (hname : (fn.name == "runtime.NumGoroutine") = false) (hn : args.length ≤ fn.ntmps)
    (h : SW P fn.ntmps c (retQ P fn.results.toList R) ⟨ofArgs args, H⟩) : CallS P f args H R :=
  ⟨enters_of hf hb hname, fun _ _ _ r hl => body_calls hf hb hn r hl h⟩
end Go.Sh
