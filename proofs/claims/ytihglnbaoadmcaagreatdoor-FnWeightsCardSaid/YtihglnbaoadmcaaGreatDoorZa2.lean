/-
  Texts put together: ShH, ShI, ShJ, ShK, ShL, ShM. What each proves stands at its own head, with its conditions.
-/
import Derived.Test.YtihglnbaoadmcaaGreatDoorZa1

set_option linter.unusedSimpArgs false
set_option linter.unusedVariables false
/-
  Statements, loops, calls: what a function's body does, said of the shadow.
-/
namespace Go.Sh
open Go Go.RowKit
variable {P : Program}

structure St where
  σ : Slots
  H : Heap

structure SAll (n : Nat) (j : JMap) (s : St) (a : Act) (w : World) : Prop where
  rel : Rel j s.H w
  slots : SRel (OwnR j s.H) w j s.σ a.tmps
  size : a.tmps.size = n
  defers : a.defers = []

theorem SRel.nx {j j' : JMap} {H H' : Heap} {w w' : World} {σ : Slots} {ts : Array Value} (r : Rel j H w) (h : Nx j H w j' H' w') (hs : SRel (OwnR j H) w j σ ts) : SRel (OwnR j' H') w' j' σ ts :=
  fun t => (hs t).nx r h

def dstOk (n : Nat) : Option Nat → Prop
  | some d => d < n
  | none => True

theorem SAll.put {n : Nat} {j j' : JMap} {s : St} {a : Act} {w w' : World} {H' : Heap} {dst : Option Nat} {x : SV} {v : Value} (h : SAll n j s a w) (hd : dstOk n dst) (r' : Rel j' H' w') (nx : Nx j s.H w j' H' w')
    (hv : VRel (OwnR j' H') w' j' x v) : SAll n j' ⟨updO s.σ dst x, H'⟩ (a.put dst v) w' := by
  have hs := h.slots.nx h.rel nx
  cases dst with
  | none => exact ⟨r', hs, h.size, h.defers⟩
  | some d =>
    have hd' : d < a.tmps.size := by rw [h.size]; exact hd
    exact ⟨r', hs.put hd' hv, by simp [Act.put, h.size], h.defers⟩

def Enters (P : Program) (f : FuncId) : Prop := ∃ fn, P.funcs[f]? = some fn ∧ (fn.name == "runtime.NumGoroutine") = false ∧ fn.body.isNone = false

def CallS (P : Program) (f : FuncId) (args : List SV) (H : Heap) (Q : SV → Heap → Prop) : Prop :=
  Enters P f ∧ ∀ j w vs, Rel j H w → LRel (OwnR j H) w j args vs → Calls P f vs.toArray w (fun e w' => ∃ r v j' H', e = .returned v ∧ Rel j' H' w' ∧ VRel (OwnR j' H') w' j' r v ∧ Nx j H w j' H' w' ∧ Q r H')

theorem CallS.mono {f : FuncId} {args : List SV} {H : Heap} {Q Q' : SV → Heap → Prop} (h : CallS P f args H Q) (hq : ∀ r H', Q r H' → Q' r H') : CallS P f args H Q' :=
  ⟨h.1, fun j w vs hr hl => (h.2 j w vs hr hl).mono (fun _ _ ⟨r, v, j', H', h1, h2, h3, h4, h5⟩ => ⟨r, v, j', H', h1, h2, h3, h4, hq _ _ h5⟩)⟩

def userCall : Op → Option Call
  | .call c => match c.callee with
    | .builtin _ => none
    | _ => some c
  | _ => none

def wpCall (P : Program) (ρ : Operand → SV) (H : Heap) (c : Call) (K : SV → Heap → Prop) : Prop :=
  match c.callee with
  | .value x => match ρ x with
    | .clos (.func f) first captured => CallS P f (first ++ c.args.toList.map ρ ++ captured) H K
    | _ => False
  | _ => False

def opW (P : Program) (n : Nat) (det : Bool) (o : Oper) (s : St) (K : St → Prop) : Prop :=
  dstOk n o.dst ∧ match userCall o.op with
    | some c => match det with
      | false => wpCall P (sval s.σ) s.H c (fun r H' => K ⟨updO s.σ o.dst r, H'⟩)
      | true => ∃ r, wpCall P (sval s.σ) s.H c (fun r' H' => r' = r ∧ H' = s.H) ∧ K ⟨updO s.σ o.dst r, s.H⟩
    | none => match sop P s.H (sval s.σ) o.op with
      | some (r, H') => K ⟨updO s.σ o.dst r, H'⟩
      | none => False

theorem wpCall.mono {ρ : Operand → SV} {H : Heap} {c : Call} {K K' : SV → Heap → Prop} (h : wpCall P ρ H c K) (hk : ∀ r H', K r H' → K' r H') : wpCall P ρ H c K' := by
  unfold wpCall at h ⊢
  split at h
  · split at h
    · exact h.mono hk
    · exact h
  · exact h

theorem callFunc_run {f : FuncId} (h : Enters P f) (args : Array Value) (w : World) : (callFunc f args).run P w = .ok (.enter f args) w := by
  obtain ⟨fn, h1, h2, h3⟩ := h
  simp only [callFunc, Sem.run_bind, run_program, Result.andThen_ok, h1, h2, h3, Bool.false_eq_true, if_false, Sem.run_pure]

theorem opW_sound {n : Nat} {o : Oper} {s : St} {K : St → Prop} {j : JMap} {a : Act} {w : World} {next : Act → World → Prop} {Q : Exit → Act → World → Prop} (h : opW P n false o s K) (ha : SAll n j s a w)
    (hk : ∀ j' s' a' w', SAll n j' s' a' w' → Nx j s.H w j' s'.H w' → K s' → next a' w') : o.wp P a w next Q := by
  obtain ⟨hd, h⟩ := h
  have hev : ∀ x, VRel (OwnR j s.H) w j (sval s.σ x) (a.eval x) := fun x => ha.slots.eval x
  split at h
  · rename_i c hc
    obtain ⟨dst, op, type, pos, after, guard⟩ := o
    cases op <;> simp only [userCall] at hc <;> try (simp at hc; done)
    rename_i c'
    obtain ⟨callee, args, argTypes⟩ := c'
    cases callee with
    | builtin b => simp at hc
    | invoke f m => simp at hc; subst hc; simp [wpCall] at h
    | value x =>
      simp at hc; subst hc
      simp only [wpCall] at h
      split at h
      · rename_i f first captured he
        obtain ⟨hen, hcall⟩ := h
        have hx := hev x
        rw [he] at hx
        simp only [VRel] at hx
        obtain ⟨us, vs, hxe, hl1, hl2⟩ := hx
        have hargs : LRel (OwnR j s.H) w j (args.toList.map (sval s.σ)) (args.toList.map a.eval) := LRel.map_ops _ (fun x _ => hev x)
        have hC := hcall j w (us ++ args.toList.map a.eval ++ vs) ha.rel ((hl1.append hargs).append hl2)
        have earr : (us ++ args.toList.map a.eval ++ vs).toArray = us.toArray ++ args.map a.eval ++ vs.toArray := by apply Array.ext'; simp
        rw [earr] at hC
        have hrun : (execOp a.eval ⟨dst, .call ⟨.value x, args, argTypes⟩, type, pos, after, guard⟩).run P w = .ok (.enter f (us.toArray ++ args.map a.eval ++ vs.toArray)) w := by
          simp only [execOp, resolve, hxe, Deferred.ofValue, pure_bind, invoke]
          exact callFunc_run hen _ w
        unfold Oper.wp
        rw [hrun, Oper.upon_enter]
        refine hC.mono ?_
        rintro e w' ⟨r, v, j', H', rfl, h2, h3, h4, h5⟩
        exact hk j' ⟨updO s.σ dst r, H'⟩ (a.put dst v) w' (ha.put hd h2 h4 h3) h4 h5
      · exact h.elim
  · split at h
    · rename_i r H' hs
      obtain ⟨v, w', j', h1, h2, h3, h4⟩ := sop_sound o hs ha.rel hev
      unfold Oper.wp
      rcases h1 with h1 | ⟨h1, rfl⟩
      · rw [h1, Oper.upon_value]
        exact hk j' ⟨updO s.σ o.dst r, H'⟩ _ w' (ha.put hd h2 h4 h3) h4 h
      · rw [h1, Oper.upon_skip]
        exact hk j' ⟨updO s.σ o.dst r, H'⟩ _ w' (ha.put hd h2 h4 h3) h4 h
    · exact h.elim

def gd : SV → Bool → Option Bool
  | .val (.bool b), w => some (b == w)
  | .tup [], _ => some false
  | _, _ => none
def opsW (P : Program) (n : Nat) (det : Bool) (ops : Array Oper) : List Oper → St → (St → Prop) → Prop
  | [], s, K => K s
  | o :: rest, s, K => match o.guard with
    | none => opW P n det o s (fun s' => opsW P n det ops rest s' K)
    | some (g, want) => match (ops[g]?).bind (·.dst) with
      | some d => match gd (s.σ d) want with
        | some true => opW P n det o s (fun s' => opsW P n det ops rest s' K)
        | some false => dstOk n o.dst ∧ opsW P n det ops rest ⟨updO s.σ o.dst (.tup []), s.H⟩ K
        | none => False
      | none => False

theorem yielded_of {n : Nat} {j : JMap} {s : St} {a : Act} {w : World} {ops : Array Oper} {g d : Nat} {b : Bool} (ha : SAll n j s a w) (hg : (ops[g]?).bind (·.dst) = some d) (hb : s.σ d = .val (.bool b)) :
    yielded ops a.tmps g = some b := by
  have := ha.slots d
  rw [hb] at this
  simp only [VRel] at this
  have h2 : a.tmps[d]? = some (.bool b) := by
    rw [Array.getD_eq_getD_getElem?] at this
    cases hx : a.tmps[d]? with
    | none => rw [hx] at this; simp [Go.undef] at this
    | some v => rw [hx] at this; simp at this; rw [this]
  simp [yielded, hg, h2]

theorem gd_of {n : Nat} {j : JMap} {s : St} {a : Act} {w : World} {ops : Array Oper} {o : Oper} {g d : Nat} {want b : Bool} (ha : SAll n j s a w) (hg : o.guard = some (g, want)) (hd : (ops[g]?).bind (·.dst) = some d) (hb : gd (s.σ d) want = some b) :
    Region.wanted o (yielded ops a.tmps) = b := by
  unfold gd at hb
  split at hb
  · rename_i b' w' hs
    have hy := yielded_of (ops := ops) ha hd hs
    simp at hb; subst hb
    simp [Region.wanted, hg, hy]
  · rename_i w' hs
    simp at hb; subst hb
    have := ha.slots d
    rw [hs] at this
    simp only [VRel, LRel] at this
    obtain ⟨vs, h1, rfl⟩ := this
    have hy : yielded ops a.tmps g = none := by
      unfold yielded
      rw [hd]
      show (match a.tmps[d]? with | some (.bool b) => some b | _ => none) = none
      rw [Array.getD_eq_getD_getElem?] at h1
      cases hx : a.tmps[d]? with
      | none => rfl
      | some v => rw [hx] at h1; simp at h1; rw [h1]
    simp [Region.wanted, hg, hy]
  · cases hb
theorem VRel.undef {O : Nat → Prop} {w : World} {j : JMap} : VRel O w j (.tup []) Go.undef := by
  simp only [VRel, LRel]
  exact ⟨[], rfl, rfl⟩

theorem opsW_sound {n : Nat} {ops : Array Oper} {K : St → Prop} {Q : Exit → Act → World → Prop} : ∀ (rest : List Oper) (i : Nat) (_ : ∀ k, rest[k]? = ops[i + k]?) (s : St) (j : JMap) (a : Act) (w : World) (_ : opsW P n false ops rest s K)
    (_ : SAll n j s a w) (_ : ∀ j' s' a' w', SAll n j' s' a' w' → Nx j s.H w j' s'.H w' → K s' → Q .normal a' w'), wpOps P ops Q (List.range' i rest.length) a w
  | [], i, _, s, j, a, w, h, ha, hk => by
    simp only [List.length_nil, List.range'_zero, wpOps]
    exact hk j s a w ha (Nx.refl _ _ _) h
  | o :: rest, i, hops, s, j, a, w, h, ha, hk => by
    have ho : ops[i]? = some o := by simpa using (hops 0).symm
    have hrest : ∀ k, rest[k]? = ops[i + 1 + k]? := fun k => by
      have := hops (k + 1)
      simpa [Nat.add_assoc, Nat.add_comm 1 k] using this
    simp only [List.length_cons, List.range'_succ, wpOps, ho]
    simp only [opsW] at h
    split at h
    · rename_i hg
      have hw : Region.wanted o (yielded ops a.tmps) = true := by simp [Region.wanted, hg]
      rw [if_pos hw]
      left
      refine opW_sound h ha (fun j' s' a' w' ha' nx hK => ?_)
      exact opsW_sound rest (i + 1) hrest s' j' a' w' hK ha' (fun j'' s'' a'' w'' h1 h2 h3 => hk j'' s'' a'' w'' h1 (nx.trans h2) h3)
    · rename_i g want hg
      split at h
      · rename_i d hd
        split at h
        · rename_i hb
          have hw : Region.wanted o (yielded ops a.tmps) = true := gd_of ha hg hd hb
          rw [if_pos hw]
          left
          refine opW_sound h ha (fun j' s' a' w' ha' nx hK => ?_)
          exact opsW_sound rest (i + 1) hrest s' j' a' w' hK ha' (fun j'' s'' a'' w'' h1 h2 h3 => hk j'' s'' a'' w'' h1 (nx.trans h2) h3)
        · rename_i hb
          have hw : ¬ Region.wanted o (yielded ops a.tmps) = true := by rw [gd_of ha hg hd hb]; simp
          rw [if_neg hw]
          obtain ⟨hd', h⟩ := h
          exact opsW_sound rest (i + 1) hrest _ j _ w h (ha.put hd' ha.rel (Nx.refl _ _ _) VRel.undef) hk
        · exact h.elim
      · exact h.elim

def SW (P : Program) (n : Nat) (c : Code) (Q : Exit → St → Prop) (s : St) : Prop :=
  ∀ j a w, SAll n j s a w → c.wp P (fun e a' w' => ∃ j' s', SAll n j' s' a' w' ∧ Nx j s.H w j' s'.H w' ∧ Q e s') a w

theorem SW.mono {n : Nat} {c : Code} {Q Q' : Exit → St → Prop} {s : St} (h : SW P n c Q s) (hq : ∀ e s', Q e s' → Q' e s') : SW P n c Q' s :=
  fun j a w ha => wp_mono (h j a w ha) (fun _ _ _ ⟨j', s', h1, h2, h3⟩ => ⟨j', s', h1, h2, hq _ _ h3⟩)

def seqQ (next : St → Prop) (Q : Exit → St → Prop) : Exit → St → Prop
  | .normal, s => next s
  | e, s => Q e s
def blockQ (id : Nat) (Q : Exit → St → Prop) : Exit → St → Prop
  | .exit id', s => if id' = id then Q .normal s else Q (.exit id') s
  | e, s => Q e s

theorem SW.seq {n : Nat} {x y : Code} {Q : Exit → St → Prop} {s : St} (h : SW P n x (seqQ (fun s' => SW P n y Q s') Q) s) : SW P n (.seq x y) Q s := by
  intro j a w ha
  refine wp_seq (wp_mono (h j a w ha) ?_)
  rintro e a1 w1 ⟨j1, s1, h1, h2, h3⟩
  cases e with
  | normal =>
    refine wp_mono (h3 j1 a1 w1 h1) ?_
    rintro e a2 w2 ⟨j2, s2, g1, g2, g3⟩
    exact ⟨j2, s2, g1, h2.trans g2, g3⟩
  | _ => exact ⟨j1, s1, h1, h2, h3⟩

theorem SW.block {n : Nat} {id : Nat} {c : Code} {Q : Exit → St → Prop} {s : St} (h : SW P n c (blockQ id Q) s) : SW P n (.block id c) Q s := by
  intro j a w ha
  refine wp_block (wp_mono (h j a w ha) ?_)
  rintro e a1 w1 ⟨j1, s1, h1, h2, h3⟩
  cases e with
  | exit id' =>
    simp only [blockQ] at h3
    simp only [Exit.inBlock]
    by_cases hid : id' = id
    · rw [if_pos hid] at h3 ⊢; exact ⟨j1, s1, h1, h2, h3⟩
    · rw [if_neg hid] at h3 ⊢; exact ⟨j1, s1, h1, h2, h3⟩
  | _ => exact ⟨j1, s1, h1, h2, h3⟩

theorem SW.cond {n : Nat} {c : Operand} {x y : Code} {Q : Exit → St → Prop} {s : St} {b : Bool} (hc : sval s.σ c = .val (.bool b)) (h1 : b = true → SW P n x Q s) (h2 : b = false → SW P n y Q s) : SW P n (.cond c x y) Q s := by
  intro j a w ha
  have := ha.slots.eval c
  rw [hc] at this
  simp only [VRel] at this
  exact wp_cond_split this (fun e => h1 e j a w ha) (fun e => h2 e j a w ha)

theorem SW.skip {n : Nat} {Q : Exit → St → Prop} {s : St} (h : Q .normal s) : SW P n .skip Q s := fun j _ _ ha => wp_skip ⟨j, s, ha, Nx.refl _ _ _, h⟩
theorem SW.label {n : Nat} {l : Nat} {Q : Exit → St → Prop} {s : St} (h : Q .normal s) : SW P n (.label l) Q s := fun j _ _ ha => wp_label ⟨j, s, ha, Nx.refl _ _ _, h⟩
theorem SW.exit {n : Nat} {id : Nat} {Q : Exit → St → Prop} {s : St} (h : Q (.exit id) s) : SW P n (.exit id) Q s := fun j _ _ ha => wp_exit ⟨j, s, ha, Nx.refl _ _ _, h⟩
theorem SW.ret {n : Nat} {Q : Exit → St → Prop} {s : St} (h : Q .ret s) : SW P n .ret Q s := fun j _ _ ha => wp_ret ⟨j, s, ha, Nx.refl _ _ _, h⟩

theorem SW.region {n : Nat} {id : Nat} {ops : Array Oper} {Q : Exit → St → Prop} {s : St} (h : opsW P n false ops ops.toList s (Q .normal)) : SW P n (.region id ops false) Q s := by
  intro j a w ha
  refine wp_region ?_
  rw [List.range_eq_range', show ops.size = ops.toList.length by simp]
  exact opsW_sound ops.toList 0 (fun k => by simp) s j a w h ha (fun j' s' a' w' h1 h2 h3 => ⟨j', s', h1, h2, h3⟩)

structure Wk (s s' : St) : Prop where
  slots : ∀ t, s'.σ t = .undef ∨ s'.σ t = s.σ t
  nb : s.H.nb ≤ s'.H.nb
  map : ∀ b, s'.H.map b = none ∨ s'.H.map b = s.H.map b

theorem Wk.own {s s' : St} (k : Wk s s') {j : JMap} {x : Nat} (h : OwnR j s'.H x) : OwnR j s.H x := by
  obtain ⟨b, blk, base, h1, h2⟩ := h
  refine ⟨b, blk, base, ?_, h2⟩
  rcases k.map b with e | e
  · rw [e] at h1; simp at h1
  · rw [← e]; exact h1

theorem Wk.rel {s s' : St} (k : Wk s s') {j : JMap} {w : World} (r : Rel j s.H w) : Rel j s'.H w := by
  have hm : ∀ b blk, s'.H.map b = some blk → s.H.map b = some blk := fun b blk hb => by
    rcases k.map b with e | e
    · rw [e] at hb; simp at hb
    · rw [← e]; exact hb
  refine ⟨r.tab.tr (Tr.weaken w (fun _ h => k.own h)), fun b p hp => Nat.lt_of_lt_of_le (r.dom b p hp) k.nb, fun b blk hb => ?_, fun b b' k k' rb ba ba' h1 h2 h3 h4 => r.inj b b' k k' rb ba ba' (hm _ _ h1) (hm _ _ h2) h3 h4⟩
  obtain ⟨rb, base, h1, h2⟩ := r.live b blk (hm b blk hb)
  exact ⟨rb, base, h1, h2.tr (Tr.weaken w (fun _ h => k.own h)) (fun _ _ h => h) rfl⟩

theorem SAll.wk {n : Nat} {j : JMap} {s s' : St} {a : Act} {w : World} (h : SAll n j s a w) (k : Wk s s') : SAll n j s' a w := by
  refine ⟨k.rel h.rel, fun t => ?_, h.size, h.defers⟩
  rcases k.slots t with e | e
  · rw [e]; simp only [VRel]
  · rw [e]; exact VRel.tr (Tr.weaken w (fun _ h => k.own h)) (fun _ _ h => h) _ _ (h.slots t)

theorem Wk.nx {s s' : St} (k : Wk s s') {j j1 : JMap} {H1 : Heap} {w w1 : World} (h : Nx j s'.H w j1 H1 w1) : Nx j s.H w j1 H1 w1 :=
  ⟨h.os, h.tape, h.output, h.size, fun x hx ho => h.keep x hx (fun o => ho (k.own o)), h.sizes, fun b hb => h.jle b (Nat.lt_of_lt_of_le hb k.nb), Nat.le_trans k.nb h.nble, fun x hx => (h.own x hx).imp k.own id⟩
theorem Wk.nx' {s s' : St} (k : Wk s s') {j j1 : JMap} {H : Heap} {w w1 : World} (h : Nx j H w j1 s.H w1) : Nx j H w j1 s'.H w1 :=
  ⟨h.os, h.tape, h.output, h.size, h.keep, h.sizes, h.jle, Nat.le_trans h.nble k.nb, fun x hx => h.own x (k.own hx)⟩

theorem SW.wk {n : Nat} {c : Code} {Q : Exit → St → Prop} {s s' : St} (k : Wk s s') (h : SW P n c Q s') : SW P n c Q s := by
  intro j a w ha
  refine wp_mono (h j a w (ha.wk k)) ?_
  rintro e a1 w1 ⟨j1, s1, h1, h2, h3⟩
  exact ⟨j1, s1, h1, k.nx h2, h3⟩

theorem SW.loop {n : Nat} {c : Code} {Q : Exit → St → Prop} {s : St} {ι : Type} (F : ι → St) (I : ι → Prop) (μ : ι → Nat) (x0 : ι) (h0 : I x0) (hs : Wk s (F x0))
    (round : ∀ x, I x → SW P n c (seqQ (fun s' => ∃ y, I y ∧ μ y < μ x ∧ Wk s' (F y)) Q) (F x)) : SW P n (.loop c) Q s := by
  intro j a w ha
  let J : Nat → Act → World → Prop := fun m a' w' => ∃ j' x, I x ∧ μ x = m ∧ SAll n j' (F x) a' w' ∧ Nx j s.H w j' (F x).H w'
  have hex : ∀ a' w', (∃ m, J m a' w') → ∃ m, J m a' w' ∧ ∀ k, J k a' w' → m ≤ k := by
    rintro a' w' ⟨m, hm⟩
    induction m using Nat.strongRecOn with
    | _ m ih =>
      by_cases hlt : ∃ k, k < m ∧ J k a' w'
      · obtain ⟨k, hk, hk'⟩ := hlt
        exact ih k hk hk'
      · refine ⟨m, hm, fun k hk => ?_⟩
        rcases Nat.lt_or_ge k m with h | h
        · exact absurd ⟨k, h, hk⟩ hlt
        · exact h
  let ν : Act → World → Nat := fun a' w' => open Classical in if h : ∃ m, J m a' w' then Classical.choose (hex a' w' h) else 0
  have hν : ∀ a' w', (∃ m, J m a' w') → J (ν a' w') a' w' ∧ ∀ k, J k a' w' → ν a' w' ≤ k := by
    intro a' w' h
    simp only [ν, dif_pos h]
    exact Classical.choose_spec (hex a' w' h)
  refine wp_loop (fun a' w' => ∃ m, J m a' w') ν ⟨μ x0, j, x0, h0, rfl, ha.wk hs, hs.nx' (Nx.refl _ _ _)⟩ ?_
  intro a1 w1 hJ
  obtain ⟨⟨j1, x, hI, hm, h1, h2⟩, hmin⟩ := hν a1 w1 hJ
  refine wp_mono (round x hI j1 a1 w1 h1) ?_
  rintro e a2 w2 ⟨j2, s2, g1, g2, g3⟩
  cases e with
  | normal =>
    obtain ⟨y, k1, k2, k3⟩ := g3
    have hJ2 : J (μ y) a2 w2 := ⟨j2, y, k1, rfl, g1.wk k3, k3.nx' (h2.trans g2)⟩
    refine ⟨⟨_, hJ2⟩, ?_⟩
    have := (hν a2 w2 ⟨_, hJ2⟩).2 _ hJ2
    omega
  | _ => exact ⟨j2, s2, g1, h2.trans g2, g3⟩

def ofArgs : List SV → Slots
  | [], _ => .undef
  | s :: _, 0 => s
  | _ :: ss, t + 1 => ofArgs ss t

theorem ofArgs_rel {O : Nat → Prop} {w : World} {j : JMap} : ∀ {ss : List SV} {vs : List Value} (m : Nat), LRel O w j ss vs → SRel O w j (ofArgs ss) (vs.toArray ++ Array.replicate m Go.undef)
  | ss, vs, m, h, t => by
    have hof : ∀ (ss : List SV) (t : Nat), ofArgs ss t = ss.getD t .undef := by
      intro ss
      induction ss with
      | nil => intro t; cases t <;> rfl
      | cons s ss ih => intro t; cases t with
        | zero => rfl
        | succ t => simpa [ofArgs] using ih t
    rw [hof]
    cases hs : ss[t]? with
    | none => rw [List.getD_eq_getElem?_getD, hs]; simp only [Option.getD_none, VRel]
    | some s =>
      obtain ⟨v, h1, h2⟩ := h.get hs
      have hlt : t < vs.length := by
        rcases Nat.lt_or_ge t vs.length with h | h
        · exact h
        · rw [List.getElem?_eq_none h] at h1; simp at h1
      rw [List.getD_eq_getElem?_getD, hs, Array.getD_eq_getD_getElem?, Array.getElem?_append_left (by simpa using hlt)]
      simpa [h1] using h2

def sresult (P : Program) (s : St) : ResultVar → Option SV
  | .tmp t => some (s.σ t)
  | .cell a t => sload P s.H t (s.σ a)
def sresults1 (P : Program) (s : St) : List ResultVar → Option (List SV)
  | [] => some []
  | r :: rs => match sresult P s r, sresults1 P s rs with
    | some x, some xs => some (x :: xs)
    | _, _ => none
def sresults (P : Program) (s : St) (rs : List ResultVar) : Option SV :=
  match sresults1 P s rs with
  | some [x] => some x
  | some xs => some (.tup xs)
  | none => none

def resOf (tmps : Array Value) : ResultVar → Sem Value
  | .tmp t => pure (tmps.getD t Go.undef)
  | .cell ad t => do loadVar t (← asAddr (tmps.getD ad Go.undef))
theorem results_eq (fn : Func) (tmps : Array Value) : results fn tmps = (do
    let vs ← fn.results.mapM (resOf tmps)
    pure (if h : vs.size = 1 then vs[0] else .tuple vs)) := by
  unfold results
  congr 1

theorem sresults1_run {n : Nat} {j : JMap} {s : St} {a : Act} {w : World} (ha : SAll n j s a w) : ∀ (rs : List ResultVar) (xs : List SV), sresults1 P s rs = some xs →
    ∃ vs, (rs.mapM (resOf a.tmps)).run P w = .ok vs w ∧ LRel (OwnR j s.H) w j xs vs
  | [], xs, h => by simp [sresults1] at h; subst h; exact ⟨[], by simp, by simp only [LRel]⟩
  | r :: rs, xs, h => by
    simp only [sresults1] at h
    split at h
    · rename_i x ys hx hys
      simp at h; subst h
      obtain ⟨vs, h1, h2⟩ := sresults1_run ha rs ys hys
      cases r with
      | tmp t =>
        simp [sresult] at hx; subst hx
        refine ⟨a.tmps.getD t Go.undef :: vs, ?_, by simp only [LRel]; exact ⟨_, _, rfl, ha.slots t, h2⟩⟩
        simp only [List.mapM_cons, resOf, Sem.run_bind, Sem.run_pure, Result.andThen_ok, h1]
      | cell ad t =>
        simp only [sresult] at hx
        obtain ⟨p, u, hp, g1, g2⟩ := sload_var hx ha.rel (ha.slots ad)
        refine ⟨u :: vs, ?_, by simp only [LRel]; exact ⟨_, _, rfl, g2, h2⟩⟩
        have e : (resOf a.tmps (.cell ad t)).run P w = .ok u w := by simp [resOf, hp, asAddr, g1]
        simp only [List.mapM_cons, Sem.run_bind, Sem.run_pure, Result.andThen_ok, h1, e]
    · simp at h

theorem sresults_run {n : Nat} {j : JMap} {s : St} {a : Act} {w : World} {fn : Func} {r : SV} (ha : SAll n j s a w) (h : sresults P s fn.results.toList = some r) : ∃ v, (results fn a.tmps).run P w = .ok v w ∧ VRel (OwnR j s.H) w j r v := by
  unfold sresults at h
  have key : ∀ xs, sresults1 P s fn.results.toList = some xs → ∃ vs, (results fn a.tmps).run P w = .ok (if h : vs.toArray.size = 1 then vs.toArray[0] else .tuple vs.toArray) w ∧ LRel (OwnR j s.H) w j xs vs := by
    intro xs hx
    obtain ⟨vs, h1, h2⟩ := sresults1_run ha _ xs hx
    refine ⟨vs, ?_, h2⟩
    rw [results_eq, Array.mapM_eq_mapM_toList]
    simp only [Sem.run_bind, Sem.run_map, h1, Result.andThen_ok, Sem.run_pure]
  split at h
  · rename_i x hx
    simp at h; subst h
    obtain ⟨vs, h1, h2⟩ := key _ hx
    simp only [LRel] at h2
    obtain ⟨v, rest, rfl, h3, rfl⟩ := h2
    exact ⟨v, by simpa using h1, h3⟩
  · rename_i xs hne hx
    simp at h; subst h
    obtain ⟨vs, h1, h2⟩ := key _ hx
    have hl := h2.length
    refine ⟨.tuple vs.toArray, ?_, by simp only [VRel]; exact ⟨vs, rfl, h2⟩⟩
    have : ¬ vs.toArray.size = 1 := by
      intro he
      simp at he
      rw [hl] at he
      obtain ⟨y, rfl⟩ := List.length_eq_one_iff.1 he
      exact hne y rfl
    rw [h1, dif_neg this]
  · simp at h

def retQ (P : Program) (rs : List ResultVar) (R : SV → Heap → Prop) : Exit → St → Prop
  | .ret, s => match sresults P s rs with | some r => R r s.H | none => False
  | .normal, s => match sresults P s rs with | some r => R r s.H | none => False
  | _, _ => False

theorem ofArgs_all {j : JMap} {H : Heap} {w : World} {args : List SV} {vs : List Value} {n : Nat} (r : Rel j H w) (hl : LRel (OwnR j H) w j args vs) (hn : args.length ≤ n) :
    SAll n j ⟨ofArgs args, H⟩ { tmps := vs.toArray ++ Array.replicate (n - vs.toArray.size) Go.undef, defers := [] } w := by
  refine ⟨r, ofArgs_rel _ hl, ?_, rfl⟩
  have := hl.length
  simp
  omega

theorem body_calls {f : FuncId} {fn : Func} {c : Code} {args : List SV} {vs : List Value} {j : JMap} {H : Heap} {w : World} {R : SV → Heap → Prop} (hf : P.funcs[f]? = some fn) (hb : fn.body = some c) (hn : args.length ≤ fn.ntmps)
    (r : Rel j H w) (hl : LRel (OwnR j H) w j args vs) (h : SW P fn.ntmps c (retQ P fn.results.toList R) ⟨ofArgs args, H⟩) :
    Calls P f vs.toArray w (fun e w' => ∃ r v j' H', e = .returned v ∧ Rel j' H' w' ∧ VRel (OwnR j' H') w' j' r v ∧ Nx j H w j' H' w' ∧ R r H') := by
  refine calls_of_wp hf hb (wp_mono (h j _ w (ofArgs_all r hl hn)) ?_)
  rintro e a' w' ⟨j', s', h1, h2, h3⟩
  have fin : (∃ x, sresults P s' fn.results.toList = some x ∧ R x s'.H) → a'.defers = [] ∧ ∃ v, (results fn a'.tmps).run P w' = .ok v w' ∧ ∃ r u j'' H', Ending.returned v = .returned u ∧ Rel j'' H' w' ∧ VRel (OwnR j'' H') w' j'' r u ∧ Nx j H w j'' H' w' ∧ R r H' := by
    rintro ⟨x, g1, g2⟩
    obtain ⟨v, k1, k2⟩ := sresults_run (fn := fn) h1 g1
    exact ⟨h1.defers, v, k1, x, v, j', s'.H, rfl, h1.rel, k2, h2, g2⟩
  cases e with
  | normal =>
    simp only [retQ] at h3
    split at h3
    · rename_i x hx; exact fin ⟨x, hx, h3⟩
    · exact h3.elim
  | ret =>
    simp only [retQ] at h3
    split at h3
    · rename_i x hx; exact fin ⟨x, hx, h3⟩
    · exact h3.elim
  | _ => exact h3.elim

theorem enters_of {f : FuncId} {fn : Func} {c : Code} (hf : P.funcs[f]? = some fn) (hb : fn.body = some c) (hname : (fn.name == "runtime.NumGoroutine") = false) : Enters P f := ⟨fn, hf, hname, by simp [hb]⟩

theorem CallS.of_body {f : FuncId} {fn : Func} {c : Code} {args : List SV} {H : Heap} {R : SV → Heap → Prop} (hf : P.funcs[f]? = some fn) (hb : fn.body = some c) (hname : (fn.name == "runtime.NumGoroutine") = false) (hn : args.length ≤ fn.ntmps)
    (h : SW P fn.ntmps c (retQ P fn.results.toList R) ⟨ofArgs args, H⟩) : CallS P f args H R :=
  ⟨enters_of hf hb hname, fun _ _ _ r hl => body_calls hf hb hn r hl h⟩
end Go.Sh

/-
  Regions that draw their order: the text's order serves every order, where no two operations that may change places meet in memory.
-/
namespace Go.Sh
open Go Go.RowKit
variable {P : Program}

def cls : Op → Nat
  | .move _ => 0 | .assign _ => 0 | .pick _ _ _ => 0 | .build _ _ => 0 | .nilCheck _ => 0 | .binOp _ _ _ _ _ => 0 | .unOp _ _ _ => 0 | .convert _ b _ => if b = BYT then 2 else 1 | .makeInterface _ _ => 0 | .makeFunc _ _ _ => 0
  | .fieldAddr _ _ _ => 0 | .field _ _ _ => 0 | .indexAddr _ _ _ => 0 | .index _ _ _ => 0 | .extract _ _ => 0
  | .load _ _ => 1 | .slice _ _ _ _ _ => 1
  | .call c => match c.callee with
    | .builtin .len => 0
    | .builtin .max => 0
    | .builtin .min => 0
    | .builtin _ => 2
    | _ => 1
  | _ => 2

theorem cls0_user {op : Op} (h : cls op = 0) : userCall op = none := by
  cases op <;> simp only [userCall]
  rename_i c
  obtain ⟨callee, args, ats⟩ := c
  cases callee <;> simp [cls] at h ⊢

theorem cls0_sop {op : Op} {H H' : Heap} {ρ : Operand → SV} {s : SV} (h : cls op = 0) (hs : sop P H ρ op = some (s, H')) : H' = H ∧ ∀ H2, sop P H2 ρ op = some (s, H2) := by
  cases op <;> simp only [cls] at h <;> try (exact absurd h (by decide))
  case call c =>
    obtain ⟨callee, args, ats⟩ := c
    cases callee with
    | builtin b =>
      cases b <;> simp only [sop, sbuiltin] at h hs ⊢ <;> try (exact absurd h (by decide))
      all_goals
        (repeat' split at hs) <;> simp_all
    | value f => exact absurd h (by simp)
    | invoke f m => exact absurd h (by simp)
  case convert a b x =>
    split at h
    · exact absurd h (by decide)
    · exact absurd h (by decide)
  all_goals
    simp only [sop] at hs ⊢
    first
      | (simp at hs; obtain ⟨rfl, rfl⟩ := hs; exact ⟨rfl, fun _ => rfl⟩)
      | ((repeat' split at hs) <;> simp_all)

theorem cls1_sop {op : Op} {H H' : Heap} {ρ : Operand → SV} {s : SV} (h : cls op = 1) (hs : sop P H ρ op = some (s, H')) : H' = H := by
  cases op <;> simp only [cls] at h <;> try (exact absurd h (by decide))
  case call c =>
    obtain ⟨callee, args, ats⟩ := c
    cases callee with
    | builtin b => cases b <;> exact absurd h (by simp)
    | value f => simp [sop] at hs
    | invoke f m => simp [sop] at hs
  case convert a b x =>
    split at h
    · exact absurd h (by decide)
    · rename_i hb
      simp only [sop, sconvA, if_neg (fun hh : b = BYT ∧ isStr P a = true => hb hh.1)] at hs
      split at hs
      · simp at hs; exact hs.2.symm
      · simp at hs
  all_goals
    simp only [sop] at hs
    (repeat' split at hs) <;> simp_all

theorem sfill_congr {place : Nat → Option (Nat × Nat)} {ρ ρ' : Operand → SV} : ∀ (parts : List (Nat × Operand)) (cells : List SV), (∀ p ∈ parts, ρ p.2 = ρ' p.2) → sfill place ρ cells parts = sfill place ρ' cells parts
  | [], _, _ => rfl
  | (i, x) :: rest, cells, h => by
    simp only [sfill, h (i, x) (by simp)]
    split
    · split
      · exact sfill_congr rest _ (fun p hp => h p (by simp [hp]))
      · rfl
    · rfl

theorem sop_congr {op : Op} {H : Heap} {ρ ρ' : Operand → SV} (h : ∀ x ∈ op.operands, ρ x = ρ' x) : sop P H ρ op = sop P H ρ' op := by
  have lmap : ∀ xs : List Operand, (∀ x ∈ xs, ρ x = ρ' x) → xs.map ρ = xs.map ρ' := fun xs hx => List.map_congr_left hx
  have omap : ∀ o : Option Operand, (∀ x, o = some x → ρ x = ρ' x) → o.map ρ = o.map ρ' := fun o ho => by cases o <;> simp_all
  cases op <;> simp only [Op.operands] at h <;> simp only [sop] <;> try rfl
  case move x => rw [h x (by simp)]
  case assign x => rw [h x (by simp)]
  case pick c a b => rw [h c (by simp), h a (by simp), h b (by simp)]
  case box t x => rw [h x (by simp)]
  case build t parts =>
    have : sbuild P t ρ parts.toList = sbuild P t ρ' parts.toList := by
      unfold sbuild
      split
      · rw [sfill_congr parts.toList _ (fun p hp => h p.2 (by simp; exact ⟨p.1, by simpa using hp⟩))]
      · rfl
    rw [this]
  case buildSlice t n parts =>
    unfold sbuildSlice
    split
    · split
      · rw [sfill_congr parts.toList _ (fun p hp => h p.2 (by simp; exact ⟨p.1, by simpa using hp⟩))]
      · rfl
    · rfl
  case load t a => rw [h a (by simp)]
  case store t a x => rw [h a (by simp), h x (by simp)]
  case nilCheck x => rw [h x (by simp)]
  case binOp o t x y ty => rw [h x (by simp), h y (by simp)]
  case unOp o t x => rw [h x (by simp)]
  case convert a b x => rw [h x (by simp)]
  case makeInterface t x => rw [h x (by simp)]
  case makeFunc fn f c => rw [lmap f.toList (fun x hx => h x (by simp; left; simpa using hx)), lmap c.toList (fun x hx => h x (by simp; right; simpa using hx))]
  case makeSlice t l c => rw [h l (by simp), h c (by simp)]
  case slice t x lo hi mx => rw [h x (by simp), omap lo (fun y hy => h y (by simp [hy])), omap hi (fun y hy => h y (by simp [hy])), omap mx (fun y hy => h y (by simp [hy]))]
  case fieldAddr t x f => rw [h x (by simp)]
  case field t x f => rw [h x (by simp)]
  case indexAddr t x i => rw [h x (by simp), h i (by simp)]
  case index t x i => rw [h x (by simp), h i (by simp)]
  case extract x i => rw [h x (by simp)]
  case call c =>
    obtain ⟨callee, args, ats⟩ := c
    cases callee with
    | builtin b => simp only []; rw [lmap args.toList (fun x hx => h x (by simp [Call.operands]; simpa using hx))]
    | _ => rfl

theorem wpCall_congr {H : Heap} {ρ ρ' : Operand → SV} {c : Call} {K : SV → Heap → Prop} (h : ∀ x ∈ c.operands, ρ x = ρ' x) : wpCall P ρ H c K = wpCall P ρ' H c K := by
  obtain ⟨callee, args, ats⟩ := c
  cases callee with
  | value x =>
    simp only [wpCall]
    rw [h x (by simp [Call.operands]), List.map_congr_left (fun y hy => h y (by simp [Call.operands]; right; simpa using hy))]
  | _ => rfl

def OpD (P : Program) (o : Op) (ρ : Operand → SV) (H : Heap) (r : SV) (H' : Heap) : Prop :=
  match userCall o with
  | some c => H' = H ∧ wpCall P ρ H c (fun r' H'' => r' = r ∧ H'' = H)
  | none => sop P H ρ o = some (r, H')

theorem userCall_operands {o : Op} {c : Call} (h : userCall o = some c) : o.operands = c.operands := by
  cases o <;> simp only [userCall] at h <;> try (simp at h; done)
  rename_i c'
  split at h
  · simp at h
  · simp at h; subst h; rfl

theorem OpD.congr {o : Op} {ρ ρ' : Operand → SV} {H H' : Heap} {r : SV} (h : ∀ x ∈ o.operands, ρ x = ρ' x) (hd : OpD P o ρ H r H') : OpD P o ρ' H r H' := by
  unfold OpD at hd ⊢
  split
  · rename_i c hc
    rw [hc] at hd
    simp only [] at hd
    rw [userCall_operands hc] at h
    exact ⟨hd.1, by rw [← wpCall_congr h]; exact hd.2⟩
  · rename_i hc
    rw [hc] at hd
    simp only [] at hd
    rw [← sop_congr h]; exact hd

def gst (ops : Array Oper) (o : Oper) (σ : Slots) : Option Bool :=
  match o.guard with
  | none => some true
  | some (g, want) => match (ops[g]?).bind (·.dst) with
    | some d => gd (σ d) want
    | none => none

def StepD (P : Program) (n : Nat) (ops : Array Oper) (o : Oper) (s s1 : St) : Prop :=
  dstOk n o.dst ∧ ((gst ops o s.σ = some true ∧ ∃ r, OpD P o.op (sval s.σ) s.H r s1.H ∧ s1.σ = updO s.σ o.dst r) ∨ (gst ops o s.σ = some false ∧ s1.H = s.H ∧ s1.σ = updO s.σ o.dst (.tup [])))

def RunD (P : Program) (n : Nat) (ops : Array Oper) : List Nat → St → St → Prop
  | [], s, s' => s' = s
  | i :: is, s, s' => ∃ o s1, ops[i]? = some o ∧ StepD P n ops o s s1 ∧ RunD P n ops is s1 s'

theorem runD_of_opsW {n : Nat} {ops : Array Oper} {K : St → Prop} : ∀ (rest : List Oper) (i : Nat) (_ : ∀ k, rest[k]? = ops[i + k]?) (s : St), opsW P n true ops rest s K → ∃ s', RunD P n ops (List.range' i rest.length) s s' ∧ K s'
  | [], i, _, s, h => ⟨s, by simp only [List.length_nil, List.range'_zero, RunD], h⟩
  | o :: rest, i, hops, s, h => by
    have ho : ops[i]? = some o := by simpa using (hops 0).symm
    have hrest : ∀ k, rest[k]? = ops[i + 1 + k]? := fun k => by
      have := hops (k + 1)
      simpa [Nat.add_assoc, Nat.add_comm 1 k] using this
    have one : opW P n true o s (fun s' => opsW P n true ops rest s' K) → gst ops o s.σ = some true → ∃ s', RunD P n ops (List.range' i (o :: rest).length) s s' ∧ K s' := by
      rintro ⟨hd, h⟩ hg
      split at h
      · rename_i c hc
        obtain ⟨r, h1, h2⟩ := h
        obtain ⟨s', g1, g2⟩ := runD_of_opsW rest (i + 1) hrest _ h2
        refine ⟨s', ?_, g2⟩
        simp only [List.length_cons, List.range'_succ, RunD]
        exact ⟨o, _, ho, ⟨hd, .inl ⟨hg, r, by unfold OpD; rw [hc]; exact ⟨rfl, h1⟩, rfl⟩⟩, g1⟩
      · rename_i hc
        split at h
        · rename_i r H' hs
          obtain ⟨s', g1, g2⟩ := runD_of_opsW rest (i + 1) hrest _ h
          refine ⟨s', ?_, g2⟩
          simp only [List.length_cons, List.range'_succ, RunD]
          exact ⟨o, _, ho, ⟨hd, .inl ⟨hg, r, by unfold OpD; rw [hc]; exact hs, rfl⟩⟩, g1⟩
        · exact h.elim
    simp only [opsW] at h
    split at h
    · rename_i hg
      exact one h (by simp [gst, hg])
    · rename_i g want hg
      split at h
      · rename_i d hd
        split at h
        · rename_i hb
          exact one h (by simp [gst, hg, hd, hb])
        · rename_i hb
          obtain ⟨hdk, h⟩ := h
          obtain ⟨s', g1, g2⟩ := runD_of_opsW rest (i + 1) hrest _ h
          refine ⟨s', ?_, g2⟩
          simp only [List.length_cons, List.range'_succ, RunD]
          exact ⟨o, ⟨updO s.σ o.dst (.tup []), s.H⟩, ho, ⟨hdk, .inr ⟨by simp [gst, hg, hd, hb], rfl, rfl⟩⟩, g1⟩
        · exact h.elim
      · exact h.elim

def pairOk (ops : Array Oper) (x y : Oper) : Bool := x.apart ops y && (cls x.op == 0 || cls y.op == 0 || (cls x.op == 1 && cls y.op == 1))

theorem sval_updO {σ : Slots} {d : Option Nat} {r : SV} {x : Operand} (h : ∀ t, d = some t → x ≠ .tmp t) : sval (updO σ d r) x = sval σ x := by
  cases d with
  | none => rfl
  | some t =>
    cases x with
    | tmp t' =>
      have : t' ≠ t := fun e => h t rfl (by rw [e])
      simp [sval, updO, upd, this]
    | _ => rfl

theorem apart_op {ops : Array Oper} {y : Oper} {d : Nat} (h : d ∉ y.looksAt ops) {x : Operand} (hx : x ∈ y.op.operands) : x ≠ .tmp d := by
  rintro rfl
  apply h
  simp only [Oper.looksAt, List.mem_append, List.mem_filterMap]
  exact .inl ⟨.tmp d, by simpa using hx, rfl⟩
theorem apart_gst {ops : Array Oper} {y : Oper} {d : Option Nat} {σ : Slots} {r : SV} (h : ∀ t, d = some t → t ∉ y.looksAt ops) : gst ops y (updO σ d r) = gst ops y σ := by
  unfold gst
  cases hg : y.guard with
  | none => rfl
  | some p =>
    obtain ⟨g, want⟩ := p
    simp only []
    cases hd : (ops[g]?).bind (·.dst) with
    | none => rfl
    | some t =>
      simp only []
      have : updO σ d r t = σ t := by
        cases d with
        | none => rfl
        | some t' =>
          have hne : t ≠ t' := by
            rintro rfl
            apply h t rfl
            simp only [Oper.looksAt, List.mem_append]
            right
            rw [hg]
            simp [hd]
          simp [updO, upd, hne]
      rw [this]

theorem updO_comm {σ : Slots} {d e : Option Nat} {r s : SV} (h : ∀ t, d = some t → e ≠ some t) : updO (updO σ d r) e s = updO (updO σ e s) d r := by
  cases d with
  | none => rfl
  | some t =>
    cases e with
    | none => rfl
    | some u =>
      have hne : u ≠ t := fun e => h t rfl (by rw [e])
      funext k
      simp only [updO, upd]
      by_cases h1 : k = t <;> by_cases h2 : k = u <;> simp_all

theorem OpD.cls0 {o : Op} {ρ : Operand → SV} {H H' : Heap} {r : SV} (hc : cls o = 0) (h : OpD P o ρ H r H') : H' = H ∧ ∀ H2, OpD P o ρ H2 r H2 := by
  unfold OpD at h ⊢
  rw [cls0_user hc] at h ⊢
  exact cls0_sop hc h
theorem OpD.cls1 {o : Op} {ρ : Operand → SV} {H H' : Heap} {r : SV} (hc : cls o = 1) (h : OpD P o ρ H r H') : H' = H := by
  unfold OpD at h
  split at h
  · exact h.1
  · exact cls1_sop hc h

theorem StepD.swap {n : Nat} {ops : Array Oper} {x y : Oper} {s s1 s2 : St} (hp : pairOk ops x y = true) (h1 : StepD P n ops x s s1) (h2 : StepD P n ops y s1 s2) :
    ∃ s1', StepD P n ops y s s1' ∧ StepD P n ops x s1' s2 := by
  unfold pairOk at hp
  simp only [Bool.and_eq_true, Bool.or_eq_true, beq_iff_eq] at hp
  obtain ⟨hap, hcl⟩ := hp
  obtain ⟨a1, a2, a3⟩ := Oper.apart_spec hap
  obtain ⟨d1, h1⟩ := h1
  obtain ⟨d2, h2⟩ := h2
  have a2' : ∀ t, y.dst = some t → x.dst ≠ some t := fun t ht e => a2 t e ht
  -- what y sees before and behind x
  have gy : ∀ r, gst ops y (updO s.σ x.dst r) = gst ops y s.σ := fun r => apart_gst a1
  have gx : ∀ r, gst ops x (updO s.σ y.dst r) = gst ops x s.σ := fun r => apart_gst a3
  have oy : ∀ r z, z ∈ y.op.operands → sval (updO s.σ x.dst r) z = sval s.σ z := fun r z hz => sval_updO (fun t ht => apart_op (a1 t ht) hz)
  have ox : ∀ r z, z ∈ x.op.operands → sval (updO s.σ y.dst r) z = sval s.σ z := fun r z hz => sval_updO (fun t ht => apart_op (a3 t ht) hz)
  obtain ⟨σ1, H1⟩ := s1
  obtain ⟨σ2, H2⟩ := s2
  rcases h1 with ⟨g1, rx, o1, e1⟩ | ⟨g1, eH1, e1⟩ <;> rcases h2 with ⟨g2, ry, o2, e2⟩ | ⟨g2, eH2, e2⟩ <;> simp only at * <;> subst e1 <;> subst e2
  · rw [gy] at g2
    have o2' : OpD P y.op (sval s.σ) H1 ry H2 := OpD.congr (oy rx) o2
    have key : ∃ H', OpD P y.op (sval s.σ) s.H ry H' ∧ OpD P x.op (sval (updO s.σ y.dst ry)) H' rx H2 := by
      rcases hcl with (hc | hc) | ⟨hc1, hc2⟩
      · obtain ⟨rfl, hany⟩ := OpD.cls0 hc o1
        exact ⟨H2, o2', OpD.congr (fun z hz => (ox ry z hz).symm) (hany H2)⟩
      · obtain ⟨rfl, hany⟩ := OpD.cls0 hc o2'
        exact ⟨s.H, hany s.H, OpD.congr (fun z hz => (ox ry z hz).symm) o1⟩
      · have e3 := OpD.cls1 hc1 o1
        subst e3
        have e4 := OpD.cls1 hc2 o2'
        subst e4
        exact ⟨s.H, o2', OpD.congr (fun z hz => (ox ry z hz).symm) o1⟩
    obtain ⟨H', k1, k2⟩ := key
    exact ⟨⟨updO s.σ y.dst ry, H'⟩, ⟨d2, .inl ⟨g2, ry, k1, rfl⟩⟩, ⟨d1, .inl ⟨by rw [gx]; exact g1, rx, k2, updO_comm a2⟩⟩⟩
  · rw [gy] at g2
    subst eH2
    exact ⟨⟨updO s.σ y.dst (.tup []), s.H⟩, ⟨d2, .inr ⟨g2, rfl, rfl⟩⟩, ⟨d1, .inl ⟨by rw [gx]; exact g1, rx, OpD.congr (fun z hz => (ox (.tup []) z hz).symm) o1, updO_comm a2⟩⟩⟩
  · rw [gy] at g2
    subst eH1
    exact ⟨⟨updO s.σ y.dst ry, H2⟩, ⟨d2, .inl ⟨g2, ry, OpD.congr (oy (.tup [])) o2, rfl⟩⟩, ⟨d1, .inr ⟨by rw [gx]; exact g1, rfl, updO_comm a2⟩⟩⟩
  · rw [gy] at g2
    subst eH1 eH2
    exact ⟨⟨updO s.σ y.dst (.tup []), s.H⟩, ⟨d2, .inr ⟨g2, rfl, rfl⟩⟩, ⟨d1, .inr ⟨by rw [gx]; exact g1, rfl, updO_comm a2⟩⟩⟩

def waits (y : Oper) (x : Nat) : Bool := y.after.any fun e => Region.binds .any e && e.on == x
def waitsT (ops : Array Oper) : Nat → Oper → Nat → Bool
  | 0, y, x => waits y x
  | f + 1, y, x => waits y x || y.after.any fun e => Region.binds .any e && (match ops[e.on]? with | some m => waitsT ops f m x | none => false)
def drawOk (ops : Array Oper) : Bool :=
  (List.range ops.size).all fun i => match ops[i]? with
    | some y => (y.after.all fun e => !Region.binds .any e || decide (e.on < i)) && (List.range i).all fun k => match ops[k]? with
      | some x => waits y k || pairOk ops x y || waitsT ops 6 y k
      | none => true
    | none => true

def ClosedL (ops : Array Oper) (listed : Array Bool) : Prop := ∀ m y, ops[m]? = some y → listed.getD m false = true → ∀ e ∈ y.after, Region.binds .any e = true → listed.getD e.on false = true
theorem waitsT_listed {ops : Array Oper} {listed : Array Bool} (hc : ClosedL ops listed) {k : Nat} : ∀ (f : Nat) (y : Oper), (∀ e ∈ y.after, Region.binds .any e = true → listed.getD e.on false = true) → waitsT ops f y k = true → listed.getD k false = true := by
  have direct : ∀ y : Oper, (∀ e ∈ y.after, Region.binds .any e = true → listed.getD e.on false = true) → waits y k = true → listed.getD k false = true := by
    intro y hy hw
    obtain ⟨m, hm', hw'⟩ := Array.any_eq_true.1 hw
    simp only [Bool.and_eq_true, beq_iff_eq] at hw'
    have := hy _ (Array.getElem_mem hm') hw'.1
    rwa [hw'.2] at this
  intro f
  induction f with
  | zero => intro y hy hw; exact direct y hy hw
  | succ f ih =>
    intro y hy hw
    simp only [waitsT, Bool.or_eq_true] at hw
    rcases hw with hw | hw
    · exact direct y hy hw
    · obtain ⟨m, hm', hw'⟩ := Array.any_eq_true.1 hw
      simp only [Bool.and_eq_true] at hw'
      have hl := hy _ (Array.getElem_mem hm') hw'.1
      have h2 := hw'.2
      split at h2
      · rename_i z hz
        exact ih z (fun e he hb => hc _ z hz hl e he hb) h2
      · cases h2

theorem runD_front {n : Nat} {ops : Array Oper} {i : Nat} {y : Oper} (hy : ops[i]? = some y) : ∀ (l1 : List Nat) (l2 : List Nat) (s s' : St), (∀ k ∈ l1, ∀ x, ops[k]? = some x → pairOk ops x y = true) →
    RunD P n ops (l1 ++ i :: l2) s s' → RunD P n ops (i :: (l1 ++ l2)) s s'
  | [], l2, s, s', _, h => h
  | k :: l1, l2, s, s', hp, h => by
    simp only [List.cons_append, RunD] at h
    obtain ⟨x, s1, hx, h1, h2⟩ := h
    have h3 := runD_front hy l1 l2 s1 s' (fun k' hk' => hp k' (by simp [hk'])) h2
    simp only [RunD] at h3
    obtain ⟨y', s2, hy', h4, h5⟩ := h3
    rw [hy] at hy'
    simp at hy'; subst hy'
    obtain ⟨s1', g1, g2⟩ := StepD.swap (hp k (by simp) x hx) h1 h4
    simp only [List.cons_append, RunD]
    exact ⟨y, s1', hy, g1, x, s2, hx, g2, h5⟩

def left (n : Nat) (listed : Array Bool) : List Nat := (List.range n).filter fun i => !listed.getD i true

theorem left_split {n i : Nat} {listed : Array Bool} (hs : listed.size = n) (hi : i < n) (hl : listed.getD i true = false) :
    ∃ l1 l2, left n listed = l1 ++ i :: l2 ∧ left n (listed.setIfInBounds i true) = l1 ++ l2 ∧ (∀ k ∈ l1, k < i ∧ listed.getD k true = false) := by
  have hr : List.range n = List.range i ++ i :: List.range' (i + 1) (n - (i + 1)) := by
    rw [List.range_eq_range', List.range_eq_range']
    have : n = i + (1 + (n - (i + 1))) := by omega
    conv => lhs; rw [this]
    rw [← List.range'_append_1, ← List.range'_append_1]
    simp [List.range'_one]
  have hset : ∀ k, k ≠ i → (listed.setIfInBounds i true).getD k true = listed.getD k true := fun k hk => by
    simp [Array.getD_eq_getD_getElem?, Array.getElem?_setIfInBounds_ne (Ne.symm hk)]
  have hself : (listed.setIfInBounds i true).getD i true = true := by
    simp [Array.getD_eq_getD_getElem?, hs, hi]
  refine ⟨(List.range i).filter fun k => !listed.getD k true, (List.range' (i + 1) (n - (i + 1))).filter fun k => !listed.getD k true, ?_, ?_, ?_⟩
  · unfold left
    rw [hr, List.filter_append, List.filter_cons_of_pos (by simp [hl])]
  · unfold left
    rw [hr, List.filter_append, List.filter_cons_of_neg (by simp [hself])]
    congr 1
    · exact List.filter_congr (fun k hk => by rw [hset k (by simp at hk; omega)])
    · exact List.filter_congr (fun k hk => by rw [hset k (by simp [List.mem_range'] at hk; omega)])
  · intro k hk
    simp at hk
    exact ⟨hk.1, by simpa using hk.2⟩

theorem stepD_real {n : Nat} {ops : Array Oper} {i : Nat} {o : Oper} {s s1 : St} {j : JMap} {a : Act} {w : World} {K : Act → World → Prop} {Q : Exit → Act → World → Prop} (ho : ops[i]? = some o) (h : StepD P n ops o s s1) (ha : SAll n j s a w)
    (hk : ∀ j' a' w', SAll n j' s1 a' w' → Nx j s.H w j' s1.H w' → K a' w') : wpOp P ops Q i K a w := by
  obtain ⟨hd, h⟩ := h
  obtain ⟨σ1, H1⟩ := s1
  simp only [wpOp, ho]
  have wanted : ∀ b, gst ops o s.σ = some b → Region.wanted o (yielded ops a.tmps) = b := by
    intro b hb
    unfold gst at hb
    split at hb
    · rename_i hg
      simp at hb; subst hb
      simp [Region.wanted, hg]
    · rename_i g want hg
      split at hb
      · rename_i d hd'
        exact gd_of ha hg hd' hb
      · simp at hb
  rcases h with ⟨g, r, hop, rfl⟩ | ⟨g, rfl, rfl⟩
  · rw [if_pos (wanted true g)]
    left
    have hW : opW P n false o s (fun s' => s' = ⟨updO s.σ o.dst r, H1⟩) := by
      refine ⟨hd, ?_⟩
      unfold OpD at hop
      split
      · rename_i c hc
        rw [hc] at hop
        simp only at hop
        obtain ⟨rfl, hop⟩ := hop
        exact hop.mono (fun r' H' ⟨e1, e2⟩ => by rw [e1, e2])
      · rename_i hc
        rw [hc] at hop
        simp only at hop
        rw [hop]
    refine opW_sound hW ha (fun j' s' a' w' h1 h2 h3 => ?_)
    subst h3
    exact hk j' a' w' h1 h2
  · rw [if_neg (by rw [wanted false g]; simp)]
    exact hk j _ w (ha.put hd ha.rel (Nx.refl _ _ _) VRel.undef) (Nx.refl _ _ _)

theorem wpAny_of_run {n : Nat} {ops : Array Oper} {Q : Exit → Act → World → Prop} (hok : drawOk ops = true) (s' : St) : ∀ (fuel : Nat) (listed : Array Bool) (s : St) (j : JMap) (a : Act) (w : World), listed.size = ops.size → ClosedL ops listed →
    (left ops.size listed).length ≤ fuel → RunD P n ops (left ops.size listed) s s' → SAll n j s a w → (∀ j' a' w', SAll n j' s' a' w' → Nx j s.H w j' s'.H w' → Q .normal a' w') → wpAny P .any ops Q fuel listed a w := by
  have hok' : ∀ i y, ops[i]? = some y → (∀ e ∈ y.after, Region.binds .any e = true → e.on < i) ∧ ∀ k, k < i → ∀ x, ops[k]? = some x → waitsT ops 6 y k = true ∨ pairOk ops x y = true := by
    intro i y hy
    have hi : i < ops.size := by
      rcases Nat.lt_or_ge i ops.size with h | h
      · exact h
      · rw [Array.getElem?_eq_none h] at hy; simp at hy
    have := List.all_eq_true.1 hok i (by simpa using hi)
    rw [hy] at this
    simp only [Bool.and_eq_true] at this
    refine ⟨fun e he hb => ?_, fun k hk x hx => ?_⟩
    · have h1 := Array.all_eq_true.1 this.1
      obtain ⟨m, hm, rfl⟩ := Array.mem_iff_getElem.1 he
      have := h1 m hm
      simpa [hb] using this
    · have := List.all_eq_true.1 this.2 k (by simpa using hk)
      rw [hx] at this
      simp only [Bool.or_eq_true] at this
      rcases this with (h | h) | h
      · exact .inl (by simp only [waitsT, h, Bool.true_or])
      · exact .inr h
      · exact .inl h
  have ready_nil : ∀ listed : Array Bool, listed.size = ops.size → Region.ready .any ops listed = [] → left ops.size listed = [] := by
    intro listed hs hr
    cases hl : left ops.size listed with
    | nil => rfl
    | cons i rest =>
      exfalso
      have hmem : i ∈ left ops.size listed := by rw [hl]; simp
      have hi := List.mem_filter.1 hmem
      have hlt : i < ops.size := by simpa using hi.1
      have hsmall : ∀ k, k < i → listed.getD k true = true := by
        intro k hk
        cases hk' : listed.getD k true with
        | true => rfl
        | false =>
          exfalso
          have hkm : k ∈ left ops.size listed := List.mem_filter.2 ⟨by simp; omega, by simp [hk']⟩
          have hsorted : (left ops.size listed).Pairwise (· < ·) := (List.pairwise_lt_range).filter _
          rw [hl] at hsorted hkm
          rcases List.mem_cons.1 hkm with rfl | h
          · omega
          · have := (List.pairwise_cons.1 hsorted).1 k h
            omega
      have : i ∈ Region.ready .any ops listed := by
        refine List.mem_filter.2 ⟨by simpa using hlt, ?_⟩
        rw [Array.getElem?_eq_getElem hlt]
        simp only [Option.map_some, Option.getD_some, Bool.and_eq_true]
        refine ⟨hi.2, Array.all_eq_true.2 (fun m hm => ?_)⟩
        cases hb : Region.binds .any (ops[i]).after[m] with
        | false => simp
        | true =>
          have h1 := (hok' i ops[i] (Array.getElem?_eq_getElem hlt)).1 _ (Array.getElem_mem hm) hb
          have h2 := hsmall _ h1
          have h3 : listed.getD ((ops[i]).after[m]).on false = true := by
            rw [Array.getD_eq_getD_getElem?, Array.getElem?_eq_getElem (by omega)] at h2 ⊢
            simpa using h2
          simp [h3]
      rw [hr] at this
      simp at this
  intro fuel
  induction fuel with
  | zero =>
    intro listed s j a w hs hcl hf hrun ha hq
    have hl : left ops.size listed = [] := by simpa using hf
    rw [hl] at hrun
    simp only [RunD] at hrun; subst hrun
    refine ⟨?_, hq j a w ha (Nx.refl _ _ _)⟩
    cases hr : Region.ready .any ops listed with
    | nil => rfl
    | cons i rest =>
      exfalso
      have hm : i ∈ Region.ready .any ops listed := by rw [hr]; simp
      have hm := List.mem_filter.1 hm
      simp only [Bool.and_eq_true] at hm
      have : i ∈ left ops.size listed := List.mem_filter.2 ⟨hm.1, hm.2.1⟩
      rw [hl] at this; simp at this
  | succ fuel ih =>
    intro listed s j a w hs hcl hf hrun ha hq
    refine ⟨fun hr => ?_, fun i hi => ?_⟩
    · rw [ready_nil listed hs hr] at hrun
      simp only [RunD] at hrun; subst hrun
      exact hq j a w ha (Nx.refl _ _ _)
    · have hm := List.mem_filter.1 hi
      simp only [Bool.and_eq_true] at hm
      have hlt : i < ops.size := by simpa using hm.1
      have hno : listed.getD i true = false := by simpa using hm.2.1
      have hy : ops[i]? = some ops[i] := Array.getElem?_eq_getElem hlt
      have hdir : ∀ e ∈ (ops[i]).after, Region.binds .any e = true → listed.getD e.on false = true := by
        intro e he hb
        have hall := hm.2.2
        rw [hy] at hall
        simp only [Option.map_some, Option.getD_some] at hall
        obtain ⟨m, hm', rfl⟩ := Array.mem_iff_getElem.1 he
        have := Array.all_eq_true.1 hall m hm'
        rw [hb] at this
        simpa only [Bool.not_true, Bool.false_or] using this
      have hset : ∀ m, listed.getD m false = true → (listed.setIfInBounds i true).getD m false = true := by
        intro m h
        by_cases hmi : m = i
        · subst hmi
          simp [Array.getD_eq_getD_getElem?, hs, hlt]
        · rw [Array.getD_eq_getD_getElem?] at h ⊢
          rw [Array.getElem?_setIfInBounds_ne (Ne.symm hmi)]
          exact h
      have hcl' : ClosedL ops (listed.setIfInBounds i true) := by
        intro m y hmy hlm e he hb
        by_cases hmi : m = i
        · subst hmi
          rw [hy] at hmy
          simp at hmy
          subst hmy
          exact hset _ (hdir e he hb)
        · refine hset _ (hcl m y hmy ?_ e he hb)
          rw [Array.getD_eq_getD_getElem?] at hlm ⊢
          rwa [Array.getElem?_setIfInBounds_ne (Ne.symm hmi)] at hlm
      obtain ⟨l1, l2, e1, e2, e3⟩ := left_split hs hlt hno
      rw [e1] at hrun
      have hfront := runD_front hy l1 l2 s s' (fun k hk x hx => by
        obtain ⟨hk1, hk2⟩ := e3 k hk
        refine ((hok' i _ hy).2 k hk1 x hx).resolve_left (fun hw => ?_)
        have := waitsT_listed hcl 6 _ hdir hw
        rw [Array.getD_eq_getD_getElem?, Array.getElem?_eq_getElem (by omega)] at this hk2
        simp at this hk2
        rw [this] at hk2; simp at hk2) hrun
      simp only [RunD] at hfront
      obtain ⟨y, s1, hy', hstep, hrest⟩ := hfront
      refine stepD_real hy' hstep ha (fun j' a' w' h1 h2 => ?_)
      refine ih (listed.setIfInBounds i true) s1 j' a' w' (by simpa using hs) hcl' ?_ (by rw [e2]; exact hrest) h1 (fun j'' a'' w'' g1 g2 => hq j'' a'' w'' g1 (h2.trans g2))
      rw [e2]
      rw [e1] at hf
      simp at hf ⊢
      omega

theorem SW.regionD {n : Nat} {id : Nat} {ops : Array Oper} {Q : Exit → St → Prop} {s : St} (hm : P.follows .mixedOrders = true) (hok : drawOk ops = true) (h : opsW P n true ops ops.toList s (Q .normal)) : SW P n (.region id ops true) Q s := by
  intro j a w ha
  obtain ⟨s', hrun, hQ⟩ := runD_of_opsW ops.toList 0 (fun k => by simp) s h
  have hd : SAll n j s a w.drew := ⟨ha.rel.drew, ha.slots.nx ha.rel (Nx.drew j s.H w), ha.size, ha.defers⟩
  refine wp_region_any hm ?_
  have hleft : left ops.size (Array.replicate ops.size false) = List.range' 0 ops.toList.length := by
    unfold left
    rw [← List.range_eq_range']
    simp only [Array.length_toList]
    apply List.filter_eq_self.2
    intro k hk
    simp at hk
    simp [Array.getD_eq_getD_getElem?, hk]
  refine wpAny_of_run hok s' ops.size _ s j a w.drew (by simp) (fun m y _ h => by simp [Array.getD_eq_getD_getElem?, Array.getElem?_replicate] at h; split at h <;> simp at h) (by rw [hleft]; simp) (by rw [hleft]; exact hrun) hd (fun j' a' w' h1 h2 => ⟨j', s', h1, (Nx.drew j s.H w).trans h2, hQ⟩)
end Go.Sh

/-
  A body's condition by its text; contracts of calls.
-/
namespace Go.Sh
open Go Go.RowKit
variable {P : Program}

def drawsOk : Code → Bool
  | .region _ ops draw => !draw || drawOk ops
  | .seq a b => drawsOk a && drawsOk b
  | .cond _ a b => drawsOk a && drawsOk b
  | .block _ c => drawsOk c
  | .loop c => drawsOk c
  | _ => true

def vc (P : Program) (n : Nat) : Code → (Exit → St → Prop) → St → Prop
  | .skip, Q, s => Q .normal s
  | .label _, Q, s => Q .normal s
  | .region _ ops draw, Q, s => opsW P n draw ops ops.toList s (Q .normal)
  | .seq a b, Q, s => vc P n a (seqQ (fun s' => vc P n b Q s') Q) s
  | .cond c a b, Q, s => match sval s.σ c with
    | .val (.bool t) => (t = true → vc P n a Q s) ∧ (t = false → vc P n b Q s)
    | _ => False
  | .block id c, Q, s => vc P n c (blockQ id Q) s
  | .loop c, Q, s => SW P n (.loop c) Q s
  | .exit id, Q, s => Q (.exit id) s
  | .ret, Q, s => Q .ret s
  | _, _, _ => False

theorem SW_of_vc {n : Nat} (hm : P.follows .mixedOrders = true) : ∀ (c : Code) (Q : Exit → St → Prop) (s : St), drawsOk c = true → vc P n c Q s → SW P n c Q s
  | .skip, Q, s, _, h => SW.skip h
  | .label _, Q, s, _, h => SW.label h
  | .region id ops draw, Q, s, hd, h => by
    cases draw with
    | false => exact SW.region h
    | true => exact SW.regionD hm (by simpa [drawsOk] using hd) h
  | .seq a b, Q, s, hd, h => by
    simp only [drawsOk, Bool.and_eq_true] at hd
    refine SW.seq (SW.mono (SW_of_vc hm a _ s hd.1 h) ?_)
    intro e s' he
    cases e with
    | normal => exact SW_of_vc hm b Q s' hd.2 he
    | _ => exact he
  | .cond c a b, Q, s, hd, h => by
    simp only [drawsOk, Bool.and_eq_true] at hd
    simp only [vc] at h
    split at h
    · rename_i t ht
      exact SW.cond ht (fun e => SW_of_vc hm a Q s hd.1 (h.1 e)) (fun e => SW_of_vc hm b Q s hd.2 (h.2 e))
    · exact h.elim
  | .block id c, Q, s, hd, h => SW.block (SW_of_vc hm c _ s (by simpa [drawsOk] using hd) h)
  | .loop c, Q, s, _, h => h
  | .exit id, Q, s, _, h => SW.exit h
  | .ret, Q, s, _, h => SW.ret h
  | .rangeFunc _ _ _ _, _, _, _, h => h.elim
  | .scope _, _, _, _, h => h.elim
  | .goto _, _, _, _, h => h.elim
  | .refuse _, _, _, _, h => h.elim

def viewV : Value → SV
  | .slice none 0 0 => .row 0 false []
  | v => .val v
theorem viewV_rel {O : Nat → Prop} {w : World} {j : JMap} (v : Value) : VRel O w j (viewV v) v := by
  unfold viewV
  split
  · simp only [VRel]
    exact ⟨none, 0, rfl, Nat.le_refl _, by simp, .inl (by simp)⟩
  · simp only [VRel]
mutual
def view (H : Heap) : Nat → SV → Option SV
  | _, .undef => some .undef
  | _, .val v => some (viewV v)
  | _, .row n _ cs => some (.row n false cs)
  | _, .rptr cs off => some (.rptr cs off)
  | 0, .own _ _ _ _ _ _ => none
  | f + 1, .own b off n cap sz ex => match H.map b with
    | some blk => if off + n * sz ≤ blk.cells.length then (match viewL H f ((blk.cells.drop off).take (n * sz)) with | some cs => some (.row n false cs) | none => none) else none
    | none => none
  | 0, .optr _ _ => none
  | f + 1, .optr b off => match H.map b with
    | some blk => match viewL H f blk.cells with | some cs => some (.rptr cs off) | none => none
    | none => none
  | 0, .agg _ => none
  | f + 1, .agg cs => match viewL H f cs with | some cs => some (.agg cs) | none => none
  | 0, .tup _ => none
  | f + 1, .tup cs => match viewL H f cs with | some cs => some (.tup cs) | none => none
  | 0, .clos _ _ _ => none
  | f + 1, .clos fn a c => match viewL H f a, viewL H f c with | some a, some c => some (.clos fn a c) | _, _ => none
  | 0, .iface _ _ => none
  | f + 1, .iface t s => match view H f s with | some s => some (.iface t s) | none => none
def viewL (H : Heap) : Nat → List SV → Option (List SV)
  | _, [] => some []
  | f, s :: ss => match view H f s, viewL H f ss with
    | some s, some ss => some (s :: ss)
    | _, _ => none
end
mutual
def noRow : SV → Bool
  | .row _ _ _ => false
  | .rptr _ _ => false
  | .agg cs => noRowL cs
  | .tup cs => noRowL cs
  | .clos _ a c => noRowL a && noRowL c
  | .iface _ s => noRow s
  | .undef => true
  | .val _ => true
  | .own _ _ _ _ _ _ => true
  | .optr _ _ => true
def noRowL : List SV → Bool
  | [] => true
  | s :: ss => noRow s && noRowL ss
def shift (k : Nat) : SV → SV
  | .own b off n cap sz ex => .own (b + k) off n cap sz ex
  | .optr b off => .optr (b + k) off
  | .agg cs => .agg (shiftL k cs)
  | .tup cs => .tup (shiftL k cs)
  | .clos fn a c => .clos fn (shiftL k a) (shiftL k c)
  | .iface t s => .iface t (shift k s)
  | .undef => .undef
  | .val v => .val v
  | .row n ex cs => .row n ex cs
  | .rptr cs off => .rptr cs off
def shiftL (k : Nat) : List SV → List SV
  | [] => []
  | s :: ss => shift k s :: shiftL k ss
end
mutual
theorem VRel.shift {O O' : Nat → Prop} {w : World} {j J : JMap} {k : Nat} (hj : ∀ b p, j b = some p → J (b + k) = some p) : ∀ (s : SV) (v : Value), noRow s = true → VRel O w j s v → VRel O' w J (Sh.shift k s) v
  | .undef, v, _, _ => by simp only [Sh.shift, VRel]
  | .val u, v, _, h => by simp only [Sh.shift, VRel] at h ⊢; exact h
  | .row _ _ _, v, hn, _ => by simp [noRow] at hn
  | .rptr _ _, v, hn, _ => by simp [noRow] at hn
  | .own b off n cap sz ex, v, _, h => by
    simp only [Sh.shift, VRel] at h ⊢
    obtain ⟨rb, base, a, cap', c, e, fr, h1, h2⟩ := h
    exact ⟨rb, base, a, cap', c, e, fr, hj _ _ h1, h2⟩
  | .optr b off, v, _, h => by
    simp only [Sh.shift, VRel] at h ⊢
    obtain ⟨rb, base, h1, h2⟩ := h
    exact ⟨rb, base, hj _ _ h1, h2⟩
  | .agg cs, v, hn, h => by
    simp only [noRow] at hn
    simp only [Sh.shift, VRel] at h ⊢
    obtain ⟨vs, h1, h2⟩ := h
    exact ⟨vs, h1, LRel.shift hj cs vs hn h2⟩
  | .tup cs, v, hn, h => by
    simp only [noRow] at hn
    simp only [Sh.shift, VRel] at h ⊢
    obtain ⟨vs, h1, h2⟩ := h
    exact ⟨vs, h1, LRel.shift hj cs vs hn h2⟩
  | .clos fn a c, v, hn, h => by
    simp only [noRow, Bool.and_eq_true] at hn
    simp only [Sh.shift, VRel] at h ⊢
    obtain ⟨us, vs, h1, h2, h3⟩ := h
    exact ⟨us, vs, h1, LRel.shift hj a us hn.1 h2, LRel.shift hj c vs hn.2 h3⟩
  | .iface t s, v, hn, h => by
    simp only [noRow] at hn
    simp only [Sh.shift, VRel] at h ⊢
    obtain ⟨u, h1, h2⟩ := h
    exact ⟨u, h1, VRel.shift hj s u hn h2⟩
theorem LRel.shift {O O' : Nat → Prop} {w : World} {j J : JMap} {k : Nat} (hj : ∀ b p, j b = some p → J (b + k) = some p) : ∀ (s : List SV) (v : List Value), noRowL s = true → LRel O w j s v → LRel O' w J (Sh.shiftL k s) v
  | [], v, _, h => by simpa only [Sh.shiftL, LRel] using h
  | s :: ss, v, hn, h => by
    simp only [noRowL, Bool.and_eq_true] at hn
    simp only [Sh.shiftL, LRel] at h ⊢
    obtain ⟨u, rest, h1, h2, h3⟩ := h
    exact ⟨u, rest, h1, VRel.shift hj s u hn.1 h2, LRel.shift hj ss rest hn.2 h3⟩
end
mutual
theorem VRel.anyO {O O' : Nat → Prop} {w : World} {j : JMap} : ∀ (s : SV) (v : Value), noRow s = true → VRel O w j s v → VRel O' w j s v
  | .undef, v, _, _ => by simp only [VRel]
  | .val u, v, _, h => by simp only [VRel] at h ⊢; exact h
  | .row _ _ _, v, hn, _ => by simp [noRow] at hn
  | .rptr _ _, v, hn, _ => by simp [noRow] at hn
  | .own b off n cap sz ex, v, _, h => by simp only [VRel] at h ⊢; exact h
  | .optr b off, v, _, h => by simp only [VRel] at h ⊢; exact h
  | .agg cs, v, hn, h => by
    simp only [noRow] at hn
    simp only [VRel] at h ⊢
    obtain ⟨vs, h1, h2⟩ := h
    exact ⟨vs, h1, LRel.anyO cs vs hn h2⟩
  | .tup cs, v, hn, h => by
    simp only [noRow] at hn
    simp only [VRel] at h ⊢
    obtain ⟨vs, h1, h2⟩ := h
    exact ⟨vs, h1, LRel.anyO cs vs hn h2⟩
  | .clos fn a c, v, hn, h => by
    simp only [noRow, Bool.and_eq_true] at hn
    simp only [VRel] at h ⊢
    obtain ⟨us, vs, h1, h2, h3⟩ := h
    exact ⟨us, vs, h1, LRel.anyO a us hn.1 h2, LRel.anyO c vs hn.2 h3⟩
  | .iface t s, v, hn, h => by
    simp only [noRow] at hn
    simp only [VRel] at h ⊢
    obtain ⟨u, h1, h2⟩ := h
    exact ⟨u, h1, VRel.anyO s u hn h2⟩
theorem LRel.anyO {O O' : Nat → Prop} {w : World} {j : JMap} : ∀ (s : List SV) (v : List Value), noRowL s = true → LRel O w j s v → LRel O' w j s v
  | [], v, _, h => by simpa only [LRel] using h
  | s :: ss, v, hn, h => by
    simp only [noRowL, Bool.and_eq_true] at hn
    simp only [LRel] at h ⊢
    obtain ⟨u, rest, h1, h2, h3⟩ := h
    exact ⟨u, rest, h1, VRel.anyO s u hn.1 h2, LRel.anyO ss rest hn.2 h3⟩
end
def Live (O : Nat → Prop) (j : JMap) (H : Heap) (w : World) : Prop :=
  ∀ b blk, H.map b = some blk → ∃ rb base, j b = some (rb, base) ∧ ¬ O rb ∧ ∀ i s, blk.cells[i]? = some s → ∃ v, w.cell? ⟨rb, base + i, none⟩ = some v ∧ VRel O w j s v

theorem Rel.live0 {j : JMap} {H : Heap} {w : World} (r : Rel j H w) : Live (fun _ => False) j H w := by
  intro b blk hb
  obtain ⟨rb, base, h1, _⟩ := r.live b blk hb
  refine ⟨rb, base, h1, fun h => h, fun i s hi => ?_⟩
  obtain ⟨v, g1, g2⟩ := own_cells r hb h1 hi
  exact ⟨v, g1, VRel.tr (Tr.weaken w (fun _ h => h.elim)) (fun _ _ h => h) s v g2⟩

def nrHeap (H : Heap) : Prop := ∀ b blk, H.map b = some blk → noRowL blk.cells = true
theorem noRowL_get : ∀ {ss : List SV} {i : Nat} {s : SV}, noRowL ss = true → ss[i]? = some s → noRow s = true
  | [], i, s, _, h => by simp at h
  | t :: ss, 0, s, hn, h => by simp only [noRowL, Bool.and_eq_true] at hn; simp at h; subst h; exact hn.1
  | t :: ss, i + 1, s, hn, h => by simp only [noRowL, Bool.and_eq_true] at hn; exact noRowL_get hn.2 (by simpa using h)
theorem Rel.liveN {O : Nat → Prop} {j : JMap} {H : Heap} {w : World} (r : Rel j H w) (hn : nrHeap H) (hO : ∀ k, OwnR j H k → ¬ O k) : Live O j H w := by
  intro b blk hb
  obtain ⟨rb, base, h1, _⟩ := r.live b blk hb
  refine ⟨rb, base, h1, hO _ ⟨b, blk, base, hb, h1⟩, fun i s hi => ?_⟩
  obtain ⟨v, g1, g2⟩ := own_cells r hb h1 hi
  exact ⟨v, g1, VRel.anyO s v (noRowL_get (hn b blk hb) hi) g2⟩

mutual
theorem view_sound {O : Nat → Prop} {j : JMap} {H : Heap} {w : World} (hl : Live O j H w) : ∀ (f : Nat) (s s' : SV) (v : Value), view H f s = some s' → VRel O w j s v → VRel O w noj s' v
  | f, .undef, s', v, h, _ => by
    have : s' = .undef := by cases f <;> simpa [view] using h.symm
    subst this; simp only [VRel]
  | f, .val u, s', v, h, hv => by
    have : s' = viewV u := by cases f <;> simpa [view] using h.symm
    subst this
    simp only [VRel] at hv
    subst hv
    exact viewV_rel _
  | f, .row n ex cs, s', v, h, hv => by
    have : s' = .row n false cs := by cases f <;> simpa [view] using h.symm
    subst this
    simp only [VRel] at hv ⊢
    obtain ⟨a, cap, h1, h2, _, h4⟩ := hv
    exact ⟨a, cap, h1, h2, by simp, h4⟩
  | f, .rptr cs off, s', v, h, hv => by
    have : s' = .rptr cs off := by cases f <;> simpa [view] using h.symm
    subst this; simpa only [VRel] using hv
  | 0, .own _ _ _ _ _ _, s', v, h, _ => by simp [view] at h
  | f + 1, .own b off n cap sz ex, s', v, h, hv => by
    simp only [view] at h
    split at h
    · rename_i blk hb
      split at h
      · rename_i hle
        split at h
        · rename_i cs hcs
          simp at h; subst h
          simp only [VRel] at hv
          obtain ⟨rb, base, a, cap', c, e, fr, g1, rfl, g3, g4, g5, g6, g7, g8⟩ := hv
          obtain ⟨rb', base', k1, k2, k3⟩ := hl b blk hb
          rw [g1] at k1
          obtain ⟨rfl, rfl⟩ := (by simpa using k1 : rb = rb' ∧ base = base')
          obtain ⟨vs, q1, q2, q3⟩ := mem_list (O := O) (w := w) (j := j) ((blk.cells.drop off).take (n * sz)) rb (base + off) (fun i s hi => by
            rw [List.getElem?_take] at hi
            split at hi
            · obtain ⟨u, p1, p2⟩ := k3 (off + i) s (by simpa [List.getElem?_drop] using hi)
              exact ⟨u, by simpa [Nat.add_assoc] using p1, p2⟩
            · simp at hi)
          have hL := viewL_sound hl f _ cs vs hcs q3
          simp only [VRel]
          refine ⟨some a, cap', rfl, by omega, by simp, .inr ⟨a, rfl, ?_⟩⟩
          · by_cases hc0 : cs = []
            · subst hc0; simp only [CRel]
            · have hlen := hL.length
              have hn0 : cap' ≠ 0 := by
                intro h0
                have : n = 0 := by omega
                subst this
                simp at q1
                rw [q1] at hlen
                simp at hlen
                exact hc0 (by simpa using hlen.symm)
              have ha : a = ⟨rb, base + off, none⟩ := g6.resolve_left hn0
              subst ha
              refine CRel.mk (fun _ => k2) (fun i s hi => ?_)
              obtain ⟨u, p1, p2⟩ := hL.get hi
              exact ⟨u, q2 i u p1, p2⟩
        · simp at h
      · simp at h
    · simp at h
  | 0, .optr _ _, s', v, h, _ => by simp [view] at h
  | f + 1, .optr b off, s', v, h, hv => by
    simp only [view] at h
    split at h
    · rename_i blk hb
      split at h
      · rename_i cs hcs
        simp at h; subst h
        simp only [VRel] at hv
        obtain ⟨rb, base, g1, rfl⟩ := hv
        obtain ⟨rb', base', k1, k2, k3⟩ := hl b blk hb
        rw [g1] at k1
        obtain ⟨rfl, rfl⟩ := (by simpa using k1 : rb = rb' ∧ base = base')
        obtain ⟨vs, q1, q2, q3⟩ := mem_list (O := O) (w := w) (j := j) blk.cells rb base k3
        have hL := viewL_sound hl f _ cs vs hcs q3
        simp only [VRel]
        refine ⟨⟨rb, base, none⟩, by rw [Addr.add_lit], CRel.mk (fun _ => k2) (fun i s hi => ?_)⟩
        obtain ⟨u, p1, p2⟩ := hL.get hi
        exact ⟨u, q2 i u p1, p2⟩
      · simp at h
    · simp at h
  | 0, .agg _, s', v, h, _ => by simp [view] at h
  | f + 1, .agg cs, s', v, h, hv => by
    simp only [view] at h
    split at h
    · rename_i cs' hcs
      simp at h; subst h
      simp only [VRel] at hv ⊢
      obtain ⟨vs, g1, g2⟩ := hv
      exact ⟨vs, g1, viewL_sound hl f cs cs' vs hcs g2⟩
    · simp at h
  | 0, .tup _, s', v, h, _ => by simp [view] at h
  | f + 1, .tup cs, s', v, h, hv => by
    simp only [view] at h
    split at h
    · rename_i cs' hcs
      simp at h; subst h
      simp only [VRel] at hv ⊢
      obtain ⟨vs, g1, g2⟩ := hv
      exact ⟨vs, g1, viewL_sound hl f cs cs' vs hcs g2⟩
    · simp at h
  | 0, .clos _ _ _, s', v, h, _ => by simp [view] at h
  | f + 1, .clos fn a c, s', v, h, hv => by
    simp only [view] at h
    split at h
    · rename_i a' c' ha hc
      simp at h; subst h
      simp only [VRel] at hv ⊢
      obtain ⟨us, vs, g1, g2, g3⟩ := hv
      exact ⟨us, vs, g1, viewL_sound hl f a a' us ha g2, viewL_sound hl f c c' vs hc g3⟩
    · simp at h
  | 0, .iface _ _, s', v, h, _ => by simp [view] at h
  | f + 1, .iface t s, s', v, h, hv => by
    simp only [view] at h
    split at h
    · rename_i s'' hs
      simp at h; subst h
      simp only [VRel] at hv ⊢
      obtain ⟨u, g1, g2⟩ := hv
      exact ⟨u, g1, view_sound hl f s s'' u hs g2⟩
    · simp at h
theorem viewL_sound {O : Nat → Prop} {j : JMap} {H : Heap} {w : World} (hl : Live O j H w) : ∀ (f : Nat) (ss ss' : List SV) (vs : List Value), viewL H f ss = some ss' → LRel O w j ss vs → LRel O w noj ss' vs
  | f, [], ss', vs, h, hv => by
    have : ss' = [] := by cases f <;> simpa [viewL] using h.symm
    subst this; simpa only [LRel] using hv
  | f, s :: ss, ss', vs, h, hv => by
    have h' : (match view H f s, viewL H f ss with | some s, some ss => some (s :: ss) | _, _ => none) = some ss' := by
      cases f <;> simpa only [viewL] using h
    split at h'
    · rename_i t ts ht hts
      simp at h'; subst h'
      simp only [LRel] at hv ⊢
      obtain ⟨v, rest, g1, g2, g3⟩ := hv
      exact ⟨v, rest, g1, view_sound hl f s t v ht g2, viewL_sound hl f ss ts rest hts g3⟩
    · simp at h'
end
def PCall (P : Program) (f : FuncId) (args : List SV) (T : SV) : Prop :=
  Enters P f ∧ ∀ w vs, LRel (fun _ => False) w noj args vs → TabOk (fun _ => False) w → Calls P f vs.toArray w (fun e w' => ∃ v, e = .returned v ∧ Below w.heap.size w w' ∧ VRel (fun k => k < w.heap.size) w' noj T v)

def FCall (P : Program) (f : FuncId) (args : List SV) (R : SV → Heap → Prop) : Prop :=
  Enters P f ∧ ∀ w vs, LRel (fun _ => False) w noj args vs → TabOk (fun _ => False) w → Calls P f vs.toArray w (fun e w' => ∃ v r j H, e = .returned v ∧ Below w.heap.size w w' ∧ Rel j H w' ∧ VRel (OwnR j H) w' j r v ∧ (∀ k, OwnR j H k → w.heap.size ≤ k) ∧ noRow r = true ∧ nrHeap H ∧ R r H)

theorem FCall.mono {f : FuncId} {args : List SV} {R R' : SV → Heap → Prop} (h : FCall P f args R) (hr : ∀ r H, R r H → R' r H) : FCall P f args R' :=
  ⟨h.1, fun w vs hl ht => (h.2 w vs hl ht).mono (fun _ _ ⟨v, r, j, H, h1, h2, h3, h4, h5, h6, h7, h8⟩ => ⟨v, r, j, H, h1, h2, h3, h4, h5, h6, h7, hr _ _ h8⟩)⟩

theorem FCall.pcall {f : FuncId} {args : List SV} {R : SV → Heap → Prop} {T : SV} (h : FCall P f args R) (fu : Nat) (hr : ∀ r H, R r H → view H fu r = some T) : PCall P f args T := by
  refine ⟨h.1, fun w vs hl ht => (h.2 w vs hl ht).mono ?_⟩
  rintro e w' ⟨v, r, j, H, h1, h2, h3, h4, h5, h6, h7, h8⟩
  have hlive : Live (fun k => k < w.heap.size) j H w' := h3.liveN h7 (fun k hk => by have := h5 k hk; omega)
  exact ⟨v, h1, h2, view_sound hlive fu r T v (hr r H h8) (VRel.anyO r v h6 h4)⟩

structure Sub (H2 H : Heap) : Prop where
  nb : H2.nb = H.nb
  map : ∀ b, H2.map b = none ∨ H2.map b = H.map b

theorem Rel.sub {j : JMap} {H H2 : Heap} {w : World} (r : Rel j H w) (h : Sub H2 H) : Rel j H2 w := by
  have hm : ∀ b blk, H2.map b = some blk → H.map b = some blk := fun b blk hb => by
    rcases h.map b with e | e
    · rw [e] at hb; simp at hb
    · rw [← e]; exact hb
  have hsub : ∀ k, OwnR j H2 k → OwnR j H k := fun k ⟨b, blk, base, h1, h2⟩ => ⟨b, blk, base, hm b blk h1, h2⟩
  refine ⟨r.tab.tr (Tr.weaken w hsub), fun b p hp => by rw [h.nb]; exact r.dom b p hp, fun b blk hb => ?_, fun b b' k k' rb ba ba' h1 h2 h3 h4 => r.inj b b' k k' rb ba ba' (hm _ _ h1) (hm _ _ h2) h3 h4⟩
  obtain ⟨rb, base, h1, h2⟩ := r.live b blk (hm b blk hb)
  exact ⟨rb, base, h1, h2.tr (Tr.weaken w hsub) (fun _ _ h => h) rfl⟩

def Fin (R : SV → Heap → Prop) (r : SV) (H : Heap) : Prop := ∃ H2, Sub H2 H ∧ noRow r = true ∧ nrHeap H2 ∧ R r H2

theorem noOwn_empty (k : Nat) : ¬ OwnR noj Heap.empty k := by rintro ⟨b, blk, base, h1, _⟩; simp [Heap.empty] at h1
theorem Rel.empty (w : World) (ht : TabOk (fun _ => False) w) : Rel noj Heap.empty w := ⟨ht.tr (Tr.weaken w fun k hk => (noOwn_empty k hk).elim), fun b p h => by simp [noj] at h, fun b blk h => by simp [Heap.empty] at h, fun b b' k k' rb ba ba' h => by simp [Heap.empty] at h⟩

theorem Nx.below {j : JMap} {H : Heap} {w w' : World} (h : Nx noj Heap.empty w j H w') : Below w.heap.size w w' :=
  ⟨h.os, h.tape, h.output, h.size, fun k hk => h.keep k hk (noOwn_empty k)⟩

theorem FCall.of_body {f : FuncId} {fn : Func} {c : Code} {args : List SV} {R : SV → Heap → Prop} (hf : P.funcs[f]? = some fn) (hb : fn.body = some c) (hname : (fn.name == "runtime.NumGoroutine") = false) (hn : args.length ≤ fn.ntmps)
    (h : SW P fn.ntmps c (retQ P fn.results.toList (Fin R)) ⟨ofArgs args, Heap.empty⟩) : FCall P f args R := by
  refine ⟨enters_of hf hb hname, fun w vs hl ht => ?_⟩
  have hl' : LRel (OwnR noj Heap.empty) w noj args vs := LRel.tr (Tr.weaken w (fun k hk => (noOwn_empty k hk).elim)) (fun _ _ h => h) args vs hl
  refine (body_calls hf hb hn (Rel.empty w ht) hl' h).mono ?_
  rintro e w' ⟨r, v, j, H, rfl, h2, h3, h4, H2, h5, h6, h7, h8⟩
  have hsub : ∀ k, OwnR j H2 k → OwnR j H k := by
    rintro k ⟨b, blk, base, g1, g2⟩
    refine ⟨b, blk, base, ?_, g2⟩
    rcases h5.map b with e | e
    · rw [e] at g1; simp at g1
    · rw [← e]; exact g1
  refine ⟨v, r, j, H2, rfl, h4.below, h2.sub h5, VRel.anyO r v h6 h3, fun k hk => ?_, h6, h7, h8⟩
  rcases h4.own k (hsub k hk) with o | o
  · exact (noOwn_empty k o).elim
  · exact o

theorem Below.tr {O : Nat → Prop} {w w' : World} (h : Below w.heap.size w w') (O' : Nat → Prop) (hO : ∀ k, O' k → O k ∨ w.heap.size ≤ k) : Tr O w O' w' where
  cell a v hc ho := by
    have hlt := cell_lt hc
    exact ⟨by rw [cell_of_heap (h.block _ hlt), hc], fun o => (hO _ o).elim ho (fun g => by omega)⟩
  blk k c e fr hk := by
    refine ⟨c, e, fr, ?_, rfl⟩
    rw [h.block k ?_, hk]
    rcases Nat.lt_or_ge k w.heap.size with g | g
    · exact g
    · rw [Array.getElem?_eq_none g] at hk; simp at hk

theorem Rel.below {j : JMap} {H : Heap} {w w' : World} (r : Rel j H w) (h : Below w.heap.size w w') : Rel j H w' ∧ Nx j H w j H w' := by
  have nx : Nx j H w j H w' := ⟨h.os, h.tape, h.output, h.size, fun k hk _ => h.block k hk, fun k c e fr hk => (Below.tr h (OwnR j H) (fun _ o => .inl o)).blk k c e fr hk, fun _ _ => rfl, Nat.le_refl _, fun _ o => .inl o⟩
  refine ⟨⟨r.tab.tr nx.tr, r.dom, fun b blk hb => ?_, r.inj⟩, nx⟩
  obtain ⟨rb, base, h1, h2⟩ := r.live b blk hb
  exact ⟨rb, base, h1, h2.tr nx.tr (fun _ _ h => h) (h.block _ (r.own_lt ⟨b, blk, base, hb, h1⟩))⟩

theorem PCall.callS {f : FuncId} {args args' : List SV} {T : SV} {H : Heap} (h : PCall P f args' T) (fu : Nat) (hv : viewL H fu args = some args') : CallS P f args H (fun r H' => r = T ∧ H' = H) := by
  refine ⟨h.1, fun j w vs r hl => ?_⟩
  have hl' := viewL_sound r.live0 fu args args' vs hv (LRel.tr (Tr.weaken w (fun _ h => h.elim)) (fun _ _ h => h) args vs hl)
  refine (h.2 w vs hl' (r.tab.tr (Tr.weaken w (fun _ h => h.elim)))).mono ?_
  rintro e w' ⟨v, h1, h2, h3⟩
  obtain ⟨r', nx⟩ := r.below h2
  refine ⟨T, v, j, H, h1, r', ?_, nx, rfl, rfl⟩
  exact VRel.tr (Tr.weaken w' (fun k hk => r.own_lt hk)) (by intro b p h; simp [noj] at h) T v h3

def Heap.merge (H H' : Heap) : Heap := ⟨fun x => if x < H.nb then H.map x else (H'.map (x - H.nb)).map fun blk => ⟨shiftL H.nb blk.cells, blk.ex⟩, H.nb + H'.nb⟩
def JMap.merge (j : JMap) (n : Nat) (j' : JMap) : JMap := fun x => if x < n then j x else j' (x - n)

theorem shiftL_length (k : Nat) : ∀ ss : List SV, (shiftL k ss).length = ss.length
  | [] => by simp [shiftL]
  | s :: ss => by simp [shiftL, shiftL_length k ss]
theorem shiftL_get (k : Nat) : ∀ (ss : List SV) (i : Nat), (shiftL k ss)[i]? = (ss[i]?).map (shift k)
  | [], i => by simp [shiftL]
  | s :: ss, 0 => by simp [shiftL]
  | s :: ss, i + 1 => by simp [shiftL, shiftL_get k ss i]

theorem FCall.callS {f : FuncId} {args args' : List SV} {R : SV → Heap → Prop} {H : Heap} (h : FCall P f args' R) (fu : Nat) (hv : viewL H fu args = some args') :
    CallS P f args H (fun r H' => ∃ r0 H0, R r0 H0 ∧ r = shift H.nb r0 ∧ H' = H.merge H0) := by
  refine ⟨h.1, fun j w vs r hl => ?_⟩
  have hl' := viewL_sound r.live0 fu args args' vs hv (LRel.tr (Tr.weaken w (fun _ h => h.elim)) (fun _ _ h => h) args vs hl)
  refine (h.2 w vs hl' (r.tab.tr (Tr.weaken w (fun _ h => h.elim)))).mono ?_
  rintro e w' ⟨v, r0, j0, H0, h1, h2, h3, h4, h5, h6, h7, h8⟩
  obtain ⟨r', nx0⟩ := r.below h2
  have hJold : ∀ b, b < H.nb → (j.merge H.nb j0) b = j b := fun b hb => by unfold JMap.merge; rw [if_pos hb]
  have hJnew : ∀ b p, j0 b = some p → (j.merge H.nb j0) (b + H.nb) = some p := fun b p hp => by unfold JMap.merge; rw [if_neg (by omega)]; simpa using hp
  have hown : ∀ k, OwnR (j.merge H.nb j0) (H.merge H0) k → OwnR j H k ∨ w.heap.size ≤ k := by
    rintro k ⟨b, blk, base, g1, g2⟩
    unfold Heap.merge at g1
    unfold JMap.merge at g2
    by_cases hb : b < H.nb
    · simp [hb] at g1 g2; exact .inl ⟨b, blk, base, g1, g2⟩
    · simp [hb] at g1 g2
      obtain ⟨blk', q1, q2⟩ := g1
      exact .inr (h5 k ⟨_, blk', base, q1, g2⟩)
  have nx : Nx j H w (j.merge H.nb j0) (H.merge H0) w' :=
    ⟨nx0.os, nx0.tape, nx0.output, nx0.size, nx0.keep, nx0.sizes, hJold, by simp [Heap.merge], hown⟩
  have hjm := nx.jmono r
  refine ⟨shift H.nb r0, v, j.merge H.nb j0, H.merge H0, h1, ⟨r.tab.tr nx.tr, ?_, ?_, ?_⟩, VRel.shift hJnew r0 v h6 h4, nx, r0, H0, h8, rfl, rfl⟩
  · intro b p hp
    unfold JMap.merge at hp
    by_cases hb : b < H.nb
    · simp [Heap.merge]; omega
    · simp [hb] at hp
      have := h3.dom _ _ hp
      simp [Heap.merge]; omega
  · intro b blk hb
    unfold Heap.merge at hb
    by_cases hlt : b < H.nb
    · simp [hlt] at hb
      obtain ⟨rb, base, g1, g2⟩ := r.live b blk hb
      exact ⟨rb, base, hjm _ _ g1, g2.tr nx.tr hjm (h2.block _ (r.own_lt ⟨b, blk, base, hb, g1⟩))⟩
    · simp [hlt] at hb
      obtain ⟨blk0, q1, rfl⟩ := hb
      obtain ⟨rb, base, g1, c, e, lo, hi, k1, k2, k3, k4, k5⟩ := h3.live _ blk0 q1
      refine ⟨rb, base, ?_, c, e, lo, hi, k1, k2, by simpa [shiftL_length] using k3, by simpa [shiftL_length] using k4, fun i s hs => ?_⟩
      · have := hJnew _ _ g1
        rwa [Nat.sub_add_cancel (by omega)] at this
      · rw [shiftL_get] at hs
        cases hs0 : blk0.cells[i]? with
        | none => rw [hs0] at hs; simp at hs
        | some s0 =>
          rw [hs0] at hs
          simp at hs; subst hs
          obtain ⟨u, p1, p2⟩ := k5 i s0 hs0
          exact ⟨u, p1, VRel.shift hJnew s0 u (noRowL_get (h7 _ blk0 q1) hs0) p2⟩
  · intro b b' k k' rb ba ba' g1 g2 g3 g4
    unfold Heap.merge at g1 g2
    unfold JMap.merge at g3 g4
    by_cases hb : b < H.nb <;> by_cases hb' : b' < H.nb
    · simp [hb, hb'] at g1 g2 g3 g4
      exact r.inj _ _ _ _ _ _ _ g1 g2 g3 g4
    · simp [hb, hb'] at g1 g2 g3 g4
      obtain ⟨blk', q1, q2⟩ := g2
      have := h5 rb ⟨_, blk', _, q1, g4⟩
      have := r.own_lt ⟨b, k, ba, g1, g3⟩
      omega
    · simp [hb, hb'] at g1 g2 g3 g4
      obtain ⟨blk', q1, q2⟩ := g1
      have := h5 rb ⟨_, blk', _, q1, g3⟩
      have := r.own_lt ⟨b', k', ba', g2, g4⟩
      omega
    · simp [hb, hb'] at g1 g2 g3 g4
      obtain ⟨x1, q1, _⟩ := g1
      obtain ⟨x2, q2, _⟩ := g2
      have := h3.inj _ _ _ _ _ _ _ q1 q2 g3 g4
      omega
end Go.Sh

/-
  For use: the walk's rules under one name, states by their slots, lists of numbers.
-/
namespace Go.Sh
open Go Go.RowKit
variable {P : Program}

def ofL : List (Nat × SV) → Slots
  | [], _ => .undef
  | (k, v) :: l, t => if t = k then v else ofL l t
theorem ofL_wk {σ : Slots} {l : List (Nat × SV)} (h : ∀ p ∈ l, σ p.1 = p.2) (t : Nat) : ofL l t = .undef ∨ ofL l t = σ t := by
  induction l with
  | nil => exact .inl rfl
  | cons p l ih =>
    obtain ⟨k, v⟩ := p
    show (if t = k then v else ofL l t) = .undef ∨ (if t = k then v else ofL l t) = σ t
    by_cases ht : t = k
    · subst ht
      rw [if_pos rfl]
      exact .inr (h (t, v) (by simp)).symm
    · rw [if_neg ht]
      exact ih (fun p hp => h p (by simp [hp]))
theorem Wk.of {s : St} {l : List (Nat × SV)} {H : Heap} (h : ∀ p ∈ l, s.σ p.1 = p.2) (hH : s.H = H) : Wk s ⟨ofL l, H⟩ :=
  ⟨ofL_wk h, by rw [hH]; exact Nat.le_refl _, fun b => .inr (by rw [hH])⟩

theorem upd_at (σ : Slots) (d : Nat) (s : SV) (t : Nat) : upd σ d s t = if t = d then s else σ t := (rfl)
theorem updO_some (σ : Slots) (d : Nat) (s : SV) : updO σ (some d) s = upd σ d s := (rfl)
theorem updO_none (σ : Slots) (s : SV) : updO σ none s = σ := (rfl)
theorem ofL_at (k : Nat) (v : SV) (l : List (Nat × SV)) (t : Nat) : ofL ((k, v) :: l) t = if t = k then v else ofL l t := (rfl)
theorem ofL_nil (t : Nat) : ofL [] t = .undef := (rfl)
theorem sval_tmp (σ : Slots) (t : Nat) : sval σ (.tmp t) = σ t := (rfl)
theorem sval_func (σ : Slots) (f : Nat) : sval σ (.func f) = .clos (.func f) [] [] := (rfl)
theorem sval_int (σ : Slots) (k : IntKind) (n : Int) : sval σ (.const (.int k n)) = .val (.int k n) := (rfl)
theorem sval_bool (σ : Slots) (b : Bool) : sval σ (.const (.bool b)) = .val (.bool b) := (rfl)
theorem sval_str (σ : Slots) (b : ByteArray) : sval σ (.const (.string b)) = .val (.string b) := (rfl)
theorem sval_slice (σ : Slots) (a : Option Addr) (n c : Nat) : sval σ (.const (.slice a n c)) = .val (.slice a n c) := (rfl)
theorem sval_agg (σ : Slots) (cs : Array Value) : sval σ (.const (.agg cs)) = .agg (cs.toList.map .val) := (rfl)
theorem sval_nilIface (σ : Slots) : sval σ (.const .nilIface) = .val .nilIface := (rfl)
theorem sval_nilFunc (σ : Slots) : sval σ (.const .nilFunc) = .val .nilFunc := (rfl)
theorem sval_pointer (σ : Slots) (a : Option Addr) : sval σ (.const (.pointer a)) = .val (.pointer a) := (rfl)
theorem dstOk_some (n d : Nat) : dstOk n (some d) = (d < n) := (rfl)
theorem dstOk_none (n : Nat) : dstOk n none = True := (rfl)
theorem seqQ_normal (K : St → Prop) (Q : Exit → St → Prop) (s : St) : seqQ K Q .normal s = K s := (rfl)
theorem seqQ_ret (K : St → Prop) (Q : Exit → St → Prop) (s : St) : seqQ K Q .ret s = Q .ret s := (rfl)
theorem seqQ_exit (K : St → Prop) (Q : Exit → St → Prop) (s : St) (i : Nat) : seqQ K Q (.exit i) s = Q (.exit i) s := (rfl)
theorem blockQ_normal (i : Nat) (Q : Exit → St → Prop) (s : St) : blockQ i Q .normal s = Q .normal s := (rfl)
theorem blockQ_ret (i : Nat) (Q : Exit → St → Prop) (s : St) : blockQ i Q .ret s = Q .ret s := (rfl)
theorem blockQ_exit (i k : Nat) (Q : Exit → St → Prop) (s : St) : blockQ i Q (.exit k) s = if k = i then Q .normal s else Q (.exit k) s := (rfl)
theorem retQ_ret (rs : List ResultVar) (R : SV → Heap → Prop) (s : St) : retQ P rs R .ret s = match sresults P s rs with | some r => R r s.H | none => False := (rfl)
theorem retQ_normal (rs : List ResultVar) (R : SV → Heap → Prop) (s : St) : retQ P rs R .normal s = match sresults P s rs with | some r => R r s.H | none => False := (rfl)

class KV where
  k : SV → Prop
class KS where
  k : SV → Heap → Prop
class KH where
  k : Heap → Prop
class KP where
  a : Prop
class KPP where
  a : Prop
  b : Prop
class KC where
  c : Code
  q : Exit → St → Prop
def needW (c : Prop) [K : KP] : Prop := c ∧ K.a
theorem needW_true (A : Prop) : @needW True ⟨A⟩ = A := by simp [needW]
def bindV (x : Option SV) [K : KV] : Prop := match x with | some r => K.k r | none => False
def bindS (x : Option (SV × Heap)) [K : KS] : Prop := match x with | some (r, H) => K.k r H | none => False
def bindH (x : Option Heap) [K : KH] : Prop := match x with | some H => K.k H | none => False
def guardW (x : Option SV) (want : Bool) [K : KPP] : Prop := match x with | some s => (match gd s want with | some true => K.a | some false => K.b | none => False) | none => False
def condW (x : SV) [K : KPP] : Prop := match x with | .val (.bool t) => (t = true → K.a) ∧ (t = false → K.b) | _ => False
def CallX (P : Program) (f : FuncId) (args : List SV) (H : Heap) [K : KS] : Prop := CallS P f args H K.k
def CallD (P : Program) (f : FuncId) (args : List SV) (H : Heap) [K : KS] : Prop := ∃ r, CallS P f args H (fun r' H' => r' = r ∧ H' = H) ∧ K.k r H
def callW (P : Program) (det : Bool) (x : SV) (args : List SV) (H : Heap) [K : KS] : Prop :=
  match x with
  | .clos (.func f) first captured => (match det with
    | false => CallS P f (first ++ args ++ captured) H K.k
    | true => ∃ r, CallS P f (first ++ args ++ captured) H (fun r' H' => r' = r ∧ H' = H) ∧ K.k r H)
  | _ => False
def LoopW (P : Program) (n : Nat) (s : St) [K : KC] : Prop := SW P n (.loop K.c) K.q s

theorem bindV_some (r : SV) (K : SV → Prop) : @bindV (some r) ⟨K⟩ = K r := (rfl)
theorem bindS_some (r : SV) (H : Heap) (K : SV → Heap → Prop) : @bindS (some (r, H)) ⟨K⟩ = K r H := (rfl)
theorem bindH_some (H : Heap) (K : Heap → Prop) : @bindH (some H) ⟨K⟩ = K H := (rfl)
theorem guardW_tt (A B : Prop) : @guardW (some (.val (.bool true))) true ⟨A, B⟩ = A := (rfl)
theorem guardW_tf (A B : Prop) : @guardW (some (.val (.bool true))) false ⟨A, B⟩ = B := (rfl)
theorem guardW_ft (A B : Prop) : @guardW (some (.val (.bool false))) true ⟨A, B⟩ = B := (rfl)
theorem guardW_ff (A B : Prop) : @guardW (some (.val (.bool false))) false ⟨A, B⟩ = A := (rfl)
theorem guardW_u (w : Bool) (A B : Prop) : @guardW (some (.tup [])) w ⟨A, B⟩ = B := (rfl)
theorem condW_t (A B : Prop) : @condW (.val (.bool true)) ⟨A, B⟩ = A := by simp [condW]
theorem condW_f (A B : Prop) : @condW (.val (.bool false)) ⟨A, B⟩ = B := by simp [condW]
theorem callW_f (f : FuncId) (a c args : List SV) (H : Heap) (K : SV → Heap → Prop) : @callW P false (.clos (.func f) a c) args H ⟨K⟩ = @CallX P f (a ++ args ++ c) H ⟨K⟩ := (rfl)
theorem callW_t (f : FuncId) (a c args : List SV) (H : Heap) (K : SV → Heap → Prop) : @callW P true (.clos (.func f) a c) args H ⟨K⟩ = @CallD P f (a ++ args ++ c) H ⟨K⟩ := (rfl)

theorem vc_skip (n : Nat) (Q : Exit → St → Prop) (s : St) : vc P n .skip Q s = Q .normal s := (rfl)
theorem vc_label (n l : Nat) (Q : Exit → St → Prop) (s : St) : vc P n (.label l) Q s = Q .normal s := (rfl)
theorem vc_region (n id : Nat) (l : List Oper) (draw : Bool) (Q : Exit → St → Prop) (s : St) : vc P n (.region id l.toArray draw) Q s = opsW P n draw l.toArray l s (Q .normal) := (rfl)
theorem vc_seq (n : Nat) (a b : Code) (Q : Exit → St → Prop) (s : St) : vc P n (.seq a b) Q s = vc P n a (seqQ (fun s' => vc P n b Q s') Q) s := (rfl)
theorem vc_cond (n : Nat) (c : Operand) (a b : Code) (Q : Exit → St → Prop) (s : St) : vc P n (.cond c a b) Q s = @condW (sval s.σ c) ⟨vc P n a Q s, vc P n b Q s⟩ := (rfl)
theorem vc_block (n id : Nat) (c : Code) (Q : Exit → St → Prop) (s : St) : vc P n (.block id c) Q s = vc P n c (blockQ id Q) s := (rfl)
theorem vc_loop (n : Nat) (c : Code) (Q : Exit → St → Prop) (s : St) : vc P n (.loop c) Q s = @LoopW P n s ⟨c, Q⟩ := (rfl)
theorem LoopW.loop {n : Nat} {c : Code} {Q : Exit → St → Prop} {s : St} {ι : Type} (F : ι → St) (I : ι → Prop) (μ : ι → Nat) (x0 : ι) (h0 : I x0) (hs : Wk s (F x0))
    (round : ∀ x, I x → SW P n c (seqQ (fun s' => ∃ y, I y ∧ μ y < μ x ∧ Wk s' (F y)) Q) (F x)) : @LoopW P n s ⟨c, Q⟩ := SW.loop F I μ x0 h0 hs round
theorem vc_exit (n id : Nat) (Q : Exit → St → Prop) (s : St) : vc P n (.exit id) Q s = Q (.exit id) s := (rfl)
theorem vc_ret (n : Nat) (Q : Exit → St → Prop) (s : St) : vc P n .ret Q s = Q .ret s := (rfl)

section
variable (n : Nat) (det : Bool) (ops : Array Oper) (s : St) (K : St → Prop) (dst : Option Tmp) (ty : TypeId) (pos : String) (after : Array Edge) (gd : Option (Nat × Bool))
theorem opsW_nil : opsW P n det ops [] s K = K s := (rfl)
theorem opsW_cons (op : Op) (rest : List Oper) : opsW P n det ops (⟨dst, op, ty, pos, after, none⟩ :: rest) s K = opW P n det ⟨dst, op, ty, pos, after, none⟩ s (fun s' => opsW P n det ops rest s' K) := (rfl)
def dstOf : List Oper → Nat → Option Nat
  | [], _ => none
  | o :: _, 0 => o.dst
  | _ :: l, g + 1 => dstOf l g
theorem dstOf_eq : ∀ (l : List Oper) (g : Nat), dstOf l g = (l[g]?).bind (·.dst)
  | [], g => by simp [dstOf]
  | o :: l, 0 => by simp [dstOf]
  | o :: l, g + 1 => by simp [dstOf, dstOf_eq l g]
theorem dstOf_zero (op : Op) (l : List Oper) : dstOf (⟨dst, op, ty, pos, after, gd⟩ :: l) 0 = dst := (rfl)
theorem dstOf_succ (o : Oper) (l : List Oper) (g : Nat) : dstOf (o :: l) (g + 1) = dstOf l g := (rfl)
def slotAt (σ : Slots) (d : Option Nat) : Option SV := match d with | some d => some (σ d) | none => none
theorem opsW_guard (l : List Oper) (op : Op) (rest : List Oper) (g : Nat) (want : Bool) : opsW P n det l.toArray (⟨dst, op, ty, pos, after, some (g, want)⟩ :: rest) s K =
    @guardW (slotAt s.σ (dstOf l g)) want ⟨opW P n det ⟨dst, op, ty, pos, after, none⟩ s (fun s' => opsW P n det l.toArray rest s' K), @needW (dstOk n dst) ⟨opsW P n det l.toArray rest ⟨updO s.σ dst (.tup []), s.H⟩ K⟩⟩ := by
  simp only [opsW, dstOf_eq, List.getElem?_toArray]
  cases hd : (l[g]?).bind (·.dst) with
  | none => rfl
  | some d =>
    show _ = @guardW (some (s.σ d)) want ⟨_, _⟩
    simp only []
    show _ = (match gd (s.σ d) want with | some true => _ | some false => _ | none => False)
    cases gd (s.σ d) want with
    | none => rfl
    | some b => cases b <;> rfl
theorem opW_move (x : Operand) : opW P n det ⟨dst, .move x, ty, pos, after, gd⟩ s K = @needW (dstOk n dst) ⟨K ⟨updO s.σ dst (sval s.σ x), s.H⟩⟩ := (rfl)
theorem opW_assign (x : Operand) : opW P n det ⟨dst, .assign x, ty, pos, after, gd⟩ s K = @needW (dstOk n dst) ⟨K ⟨updO s.σ dst (sval s.σ x), s.H⟩⟩ := (rfl)
def pickV (c a b : SV) : Option SV := match c with | .val (.bool t) => some (if t = true then a else b) | _ => none
theorem pickV_t (a b : SV) : pickV (.val (.bool true)) a b = some a := (rfl)
theorem pickV_f (a b : SV) : pickV (.val (.bool false)) a b = some b := (rfl)
theorem opW_pick (c x y : Operand) : opW P n det ⟨dst, .pick c x y, ty, pos, after, gd⟩ s K = @needW (dstOk n dst) ⟨@bindV (pickV (sval s.σ c) (sval s.σ x) (sval s.σ y)) ⟨fun r => K ⟨updO s.σ dst r, s.H⟩⟩⟩ := by
  simp only [opW, userCall, sop]
  cases sval s.σ c with
  | val v => cases v <;> rfl
  | _ => rfl
theorem opW_alloc (t : TypeId) : opW P n det ⟨dst, .alloc t, ty, pos, after, gd⟩ s K = @needW (dstOk n dst) ⟨@bindS (salloc P s.H t) ⟨fun r H => K ⟨updO s.σ dst r, H⟩⟩⟩ := by
  simp only [opW, userCall, sop]
  cases salloc P s.H t <;> rfl
theorem opW_box (t : TypeId) (x : Operand) : opW P n det ⟨dst, .box t x, ty, pos, after, gd⟩ s K = @needW (dstOk n dst) ⟨@bindS (sbox s.H (sval s.σ x)) ⟨fun r H => K ⟨updO s.σ dst r, H⟩⟩⟩ := by
  simp only [opW, userCall, sop]
  cases sbox s.H (sval s.σ x) <;> rfl
theorem opW_build (t : TypeId) (ps : List (Nat × Operand)) : opW P n det ⟨dst, .build t ps.toArray, ty, pos, after, gd⟩ s K = @needW (dstOk n dst) ⟨@bindV (sbuild P t (sval s.σ) ps) ⟨fun r => K ⟨updO s.σ dst r, s.H⟩⟩⟩ := by
  simp only [opW, userCall, sop]
  cases sbuild P t (sval s.σ) ps <;> rfl
theorem opW_buildSlice (t : TypeId) (m : Nat) (ps : List (Nat × Operand)) : opW P n det ⟨dst, .buildSlice t m ps.toArray, ty, pos, after, gd⟩ s K = @needW (dstOk n dst) ⟨@bindS (sbuildSlice P s.H t m (sval s.σ) ps) ⟨fun r H => K ⟨updO s.σ dst r, H⟩⟩⟩ := by
  simp only [opW, userCall, sop]
  cases sbuildSlice P s.H t m (sval s.σ) ps <;> rfl
theorem opW_load (t : TypeId) (x : Operand) : opW P n det ⟨dst, .load t x, ty, pos, after, gd⟩ s K = @needW (dstOk n dst) ⟨@bindV (sload P s.H t (sval s.σ x)) ⟨fun r => K ⟨updO s.σ dst r, s.H⟩⟩⟩ := by
  simp only [opW, userCall, sop]
  cases sload P s.H t (sval s.σ x) <;> rfl
theorem opW_store (t : TypeId) (x y : Operand) : opW P n det ⟨dst, .store t x y, ty, pos, after, gd⟩ s K = @needW (dstOk n dst) ⟨@bindH (sstore P s.H t (sval s.σ x) (sval s.σ y)) ⟨fun H => K ⟨updO s.σ dst .undef, H⟩⟩⟩ := by
  simp only [opW, userCall, sop]
  cases sstore P s.H t (sval s.σ x) (sval s.σ y) <;> rfl
def nilV (x : SV) : Option SV := match x with
  | .optr b o => some (.optr b o)
  | .rptr cs o => some (.rptr cs o)
  | .clos (.func f) a c => some (.clos (.func f) a c)
  | _ => none
theorem opW_nilCheck (x : Operand) : opW P n det ⟨dst, .nilCheck x, ty, pos, after, gd⟩ s K = @needW (dstOk n dst) ⟨@bindV (nilV (sval s.σ x)) ⟨fun r => K ⟨updO s.σ dst r, s.H⟩⟩⟩ := by
  simp only [opW, userCall, sop]
  cases sval s.σ x with
  | clos fn a c => cases fn <;> rfl
  | _ => rfl
theorem opW_binOp (op : BinOp) (t t2 : TypeId) (x y : Operand) : opW P n det ⟨dst, .binOp op t x y t2, ty, pos, after, gd⟩ s K = @needW (dstOk n dst) ⟨@bindV (sbinI P op t y (sval s.σ x) (sval s.σ y)) ⟨fun r => K ⟨updO s.σ dst r, s.H⟩⟩⟩ := by
  simp only [opW, userCall, sop]
  cases sbinI P op t y (sval s.σ x) (sval s.σ y) <;> rfl
theorem opW_unOp (op : UnOp) (t : TypeId) (x : Operand) : opW P n det ⟨dst, .unOp op t x, ty, pos, after, gd⟩ s K = @needW (dstOk n dst) ⟨@bindV (sun op (sval s.σ x)) ⟨fun r => K ⟨updO s.σ dst r, s.H⟩⟩⟩ := by
  simp only [opW, userCall, sop]
  cases sun op (sval s.σ x) <;> rfl
theorem opW_convert (a b : TypeId) (x : Operand) : opW P n det ⟨dst, .convert a b x, ty, pos, after, gd⟩ s K = @needW (dstOk n dst) ⟨@bindS (sconvA P s.H a b (sval s.σ x)) ⟨fun r H => K ⟨updO s.σ dst r, H⟩⟩⟩ := by
  simp only [opW, userCall, sop]
  cases sconvA P s.H a b (sval s.σ x) <;> rfl
def ifaceV (b : Option Bool) (t : TypeId) (x : SV) : Option SV := match b with | some false => some (.iface t x) | _ => none
theorem ifaceV_f (t : TypeId) (x : SV) : ifaceV (some false) t x = some (.iface t x) := (rfl)
theorem opW_makeInterface (t : TypeId) (x : Operand) : opW P n det ⟨dst, .makeInterface t x, ty, pos, after, gd⟩ s K = @needW (dstOk n dst) ⟨@bindV (ifaceV (isIface P t) t (sval s.σ x)) ⟨fun r => K ⟨updO s.σ dst r, s.H⟩⟩⟩ := by
  simp only [opW, userCall, sop, ifaceV]
  cases isIface P t with
  | none => rfl
  | some b => cases b <;> rfl
theorem opW_makeFunc (fn : Fn) (f c : List Operand) : opW P n det ⟨dst, .makeFunc fn f.toArray c.toArray, ty, pos, after, gd⟩ s K = @needW (dstOk n dst) ⟨K ⟨updO s.σ dst (.clos fn (f.map (sval s.σ)) (c.map (sval s.σ))), s.H⟩⟩ := (rfl)
theorem opW_makeSlice (t : TypeId) (l c : Operand) : opW P n det ⟨dst, .makeSlice t l c, ty, pos, after, gd⟩ s K = @needW (dstOk n dst) ⟨@bindS (smake P s.H t (sval s.σ l) (sval s.σ c)) ⟨fun r H => K ⟨updO s.σ dst r, H⟩⟩⟩ := by
  simp only [opW, userCall, sop]
  cases smake P s.H t (sval s.σ l) (sval s.σ c) <;> rfl
theorem opW_slice (t : TypeId) (x : Operand) (lo hi mx : Option Operand) : opW P n det ⟨dst, .slice t x lo hi mx, ty, pos, after, gd⟩ s K = @needW (dstOk n dst) ⟨@bindV (sslice P s.H t (globO x (sval s.σ x)) (lo.map (sval s.σ)) (hi.map (sval s.σ)) (mx.map (sval s.σ))) ⟨fun r => K ⟨updO s.σ dst r, s.H⟩⟩⟩ := by
  simp only [opW, userCall, sop]
  cases sslice P s.H t (globO x (sval s.σ x)) (lo.map (sval s.σ)) (hi.map (sval s.σ)) (mx.map (sval s.σ)) <;> rfl
theorem opW_fieldAddr (t : TypeId) (x : Operand) (f : Nat) : opW P n det ⟨dst, .fieldAddr t x f, ty, pos, after, gd⟩ s K = @needW (dstOk n dst) ⟨@bindV (sfieldAddr P t f (sval s.σ x)) ⟨fun r => K ⟨updO s.σ dst r, s.H⟩⟩⟩ := by
  simp only [opW, userCall, sop]
  cases sfieldAddr P t f (sval s.σ x) <;> rfl
theorem opW_field (t : TypeId) (x : Operand) (f : Nat) : opW P n det ⟨dst, .field t x f, ty, pos, after, gd⟩ s K = @needW (dstOk n dst) ⟨@bindV (sfield P t f (sval s.σ x)) ⟨fun r => K ⟨updO s.σ dst r, s.H⟩⟩⟩ := by
  simp only [opW, userCall, sop]
  cases sfield P t f (sval s.σ x) <;> rfl
theorem opW_indexAddr (t : TypeId) (x i : Operand) : opW P n det ⟨dst, .indexAddr t x i, ty, pos, after, gd⟩ s K = @needW (dstOk n dst) ⟨@bindV (sindexAddr P t (globO x (sval s.σ x)) (sval s.σ i)) ⟨fun r => K ⟨updO s.σ dst r, s.H⟩⟩⟩ := by
  simp only [opW, userCall, sop]
  cases sindexAddr P t (globO x (sval s.σ x)) (sval s.σ i) <;> rfl
theorem opW_index (t : TypeId) (x i : Operand) : opW P n det ⟨dst, .index t x i, ty, pos, after, gd⟩ s K = @needW (dstOk n dst) ⟨@bindV (sindex P t (sval s.σ x) (sval s.σ i)) ⟨fun r => K ⟨updO s.σ dst r, s.H⟩⟩⟩ := by
  simp only [opW, userCall, sop]
  cases sindex P t (sval s.σ x) (sval s.σ i) <;> rfl
def tupV (x : SV) (i : Nat) : Option SV := match x with | .tup vs => vs[i]? | _ => none
theorem tupV_0 (x : SV) (l : List SV) : tupV (.tup (x :: l)) 0 = some x := (rfl)
theorem tupV_1 (x y : SV) (l : List SV) : tupV (.tup (x :: y :: l)) 1 = some y := (rfl)
theorem tupV_2 (x y z : SV) (l : List SV) : tupV (.tup (x :: y :: z :: l)) 2 = some z := (rfl)
theorem opW_extract (x : Operand) (i : Nat) : opW P n det ⟨dst, .extract x i, ty, pos, after, gd⟩ s K = @needW (dstOk n dst) ⟨@bindV (tupV (sval s.σ x) i) ⟨fun r => K ⟨updO s.σ dst r, s.H⟩⟩⟩ := by
  simp only [opW, userCall, sop]
  cases sval s.σ x with
  | tup vs =>
    show (dstOk n dst ∧ (match (match vs[i]? with | some s1 => some (s1, s.H) | none => none) with | some (r, H') => K ⟨updO s.σ dst r, H'⟩ | none => False)) = (dstOk n dst ∧ @bindV (vs[i]?) ⟨fun r => K ⟨updO s.σ dst r, s.H⟩⟩)
    cases vs[i]? <;> rfl
  | _ => rfl
theorem opW_builtin (b : Builtin) (args : List Operand) (ats : List TypeId) : opW P n det ⟨dst, .call ⟨.builtin b, args.toArray, ats.toArray⟩, ty, pos, after, gd⟩ s K = @needW (dstOk n dst) ⟨@bindS (sbuiltin P s.H b ats (args.map (sval s.σ))) ⟨fun r H => K ⟨updO s.σ dst r, H⟩⟩⟩ := by
  simp only [opW, userCall, sop]
  cases sbuiltin P s.H b ats (args.map (sval s.σ)) <;> rfl
theorem opW_call (x : Operand) (args : List Operand) (ats : Array TypeId) : opW P n det ⟨dst, .call ⟨.value x, args.toArray, ats⟩, ty, pos, after, gd⟩ s K = @needW (dstOk n dst) ⟨@callW P det (sval s.σ x) (args.map (sval s.σ)) s.H ⟨fun r H => K ⟨updO s.σ dst r, H⟩⟩⟩ := by
  simp only [opW, userCall, wpCall]
  cases sval s.σ x with
  | clos fn a c => cases fn <;> cases det <;> (first | rfl | simp [callW, needW])
  | _ => cases det <;> (first | rfl | simp [callW, needW])
end

attribute [go_sem ↓] needW_true bindV_some bindS_some bindH_some guardW_tt guardW_tf guardW_ft guardW_ff guardW_u condW_t condW_f callW_f callW_t vc_skip vc_label vc_region vc_seq vc_cond vc_block vc_loop vc_exit vc_ret opsW_nil opsW_cons opsW_guard opW_move opW_assign opW_pick opW_alloc opW_box opW_build opW_buildSlice opW_load opW_store opW_nilCheck opW_binOp opW_unOp opW_convert opW_makeInterface opW_makeFunc opW_makeSlice opW_slice opW_fieldAddr opW_field opW_indexAddr opW_index opW_extract opW_builtin opW_call seqQ_normal seqQ_ret seqQ_exit blockQ_normal blockQ_ret blockQ_exit retQ_ret retQ_normal
attribute [go_sem ↓] dstOf_zero dstOf_succ
attribute [go_sem] slotAt.eq_def pickV_t pickV_f nilV.eq_def ifaceV_f tupV_0 tupV_1 tupV_2
attribute [go_sem] globO_tmp globO_const upd_at updO_some updO_none ofL_at ofL_nil sval_tmp sval_func sval_int sval_bool sval_str sval_slice sval_agg sval_nilIface sval_nilFunc sval_pointer dstOk_some dstOk_none sresults.eq_def sresults1 sresult.eq_def ofArgs sbuiltin.eq_def sbin.eq_def sbinI.eq_def isConstO.eq_def sint.eq_def sun.eq_def sshift.eq_def seqb.eq_def slen.eq_def sload.eq_def pick.eq_def sindexAddr.eq_def sfieldAddr.eq_def sfield.eq_def spart.eq_def sindex.eq_def smake.eq_def salloc.eq_def sbox.eq_def cellsOf.eq_def flat.eq_def sstore.eq_def splice sslice.eq_def bnd.eq_def natOf.eq_def sconv.eq_def sconvA.eq_def BYT sbytes.eq_def sconvH.eq_def u8s_nil u8s_cons u8s_u8c isNilS.eq_def sfold1.eq_def sfold smax2.eq_def smin2.eq_def sbuild.eq_def sbuildSlice.eq_def sfill sappend.eq_def sview.eq_def ssrc.eq_def scopy.eq_def rep_one

theorem ibeq_t {a b : Int} (h : a = b) : (a == b) = true := by simp [h]
theorem ibeq_f {a b : Int} (h : a ≠ b) : (a == b) = false := by simp [h]
theorem ibne_t {a b : Int} (h : a ≠ b) : (a != b) = true := by simp [h]
theorem ibne_f {a b : Int} (h : a = b) : (a != b) = false := by simp [h]

theorem wrap_id {x : Int} (h1 : -9223372036854775808 ≤ x) (h2 : x ≤ 9223372036854775807) : IntKind.i64.wrap x = x := by
  rw [IntKind.wrap_i64]; omega
def ints (L : List Int) : List SV := L.map fun x => .val (.int .i64 x)
def ri (L : List Int) : SV := .row L.length false (ints L)
theorem zh (L : List Int) : (ints L).length = L.length := by simp [ints]
theorem ints_get {L : List Int} {k : Nat} (h : k < L.length) : (ints L)[k]? = some (.val (.int .i64 (L.getD k 0))) := by
  simp [ints, h]
theorem ints_set (L : List Int) (k : Nat) (x : Int) : (ints L).set k (.val (.int .i64 x)) = ints (L.set k x) := by
  simp [ints, List.map_set]
theorem ints_append (A B : List Int) : ints A ++ ints B = ints (A ++ B) := by simp [ints]
theorem ints_replicate (n : Nat) (x : Int) : List.replicate n (SV.val (.int .i64 x)) = ints (List.replicate n x) := by simp [ints]
theorem ints_nil : ints [] = [] := (rfl)
theorem ints_drop (L : List Int) (n : Nat) : (ints L).drop n = ints (L.drop n) := by simp [ints]
theorem ints_take_self (L : List Int) : (ints L).take L.length = ints L := by rw [← zh L, List.take_length]
theorem ints_take_of {L : List Int} {n : Nat} (h : L.length = n) : (ints L).take n = ints L := by subst h; exact ints_take_self L
theorem ints_snoc (L : List Int) (x : Int) : ints L ++ [SV.val (.int .i64 x)] = ints (L ++ [x]) := by simp [ints]
theorem ints_flat (L : List Int) : (ints L).all flat = true := by
  simp [ints, flat, Value.oneCell']
theorem ri_eq (L : List Int) : ri L = .row L.length false (ints L) := (rfl)
theorem noRowL_ints : ∀ L : List Int, noRowL (ints L) = true
  | [] => rfl
  | x :: L => by
    have := noRowL_ints L
    simpa [ints, noRowL, noRow] using this
theorem viewL_ints (H : Heap) (f : Nat) : ∀ L : List Int, viewL H f (ints L) = some (ints L)
  | [] => by simp [ints, viewL]
  | x :: L => by
    have ih := viewL_ints H f L
    have e1 : ints (x :: L) = .val (.int .i64 x) :: ints L := (rfl)
    rw [e1]
    simp only [viewL, ih, view, viewV]

def hmap : List (Nat × Blk) → Nat → Option Blk
  | [], _ => none
  | (k, v) :: l, x => if x = k then some v else hmap l x
def hp (l : List (Nat × Blk)) (n : Nat) : Heap := ⟨hmap l, n⟩
def setB : List (Nat × Blk) → Nat → Blk → List (Nat × Blk)
  | [], b, x => [(b, x)]
  | (k, v) :: l, b, x => if k = b then (k, x) :: l else (k, v) :: setB l b x
theorem hp_nb (l : List (Nat × Blk)) (n : Nat) : (hp l n).nb = n := (rfl)
theorem hp_map (l : List (Nat × Blk)) (n x : Nat) : (hp l n).map x = hmap l x := (rfl)
theorem hp_push (l : List (Nat × Blk)) (n : Nat) (k : Blk) : (hp l n).push k = hp ((n, k) :: l) (n + 1) := (rfl)
theorem zm (k : Nat) (v : Blk) (l : List (Nat × Blk)) (x : Nat) : hmap ((k, v) :: l) x = if x = k then some v else hmap l x := (rfl)
theorem hmap_nil (x : Nat) : hmap [] x = none := (rfl)
theorem hp_set (l : List (Nat × Blk)) (n b : Nat) (k : Blk) : (hp l n).set b (some k) = hp (setB l b k) n := by
  have : (fun x => if x = b then some k else hmap l x) = hmap (setB l b k) := by
    funext x
    induction l with
    | nil => simp [setB, hmap]
    | cons p l ih =>
      obtain ⟨c, v⟩ := p
      simp only [setB, hmap]
      by_cases hc : c = b
      · subst hc
        rw [if_pos rfl]
        simp only [hmap]
        by_cases hx : x = c <;> simp [hx]
      · rw [if_neg hc]
        simp only [hmap, ← ih]
        by_cases hx : x = c
        · subst hx; simp [hc]
        · simp [hx]
  show Heap.mk _ _ = Heap.mk _ _
  simp only [hp, Heap.mk.injEq, and_true]
  exact this
def delB : List (Nat × Blk) → Nat → List (Nat × Blk)
  | [], _ => []
  | (k, v) :: l, b => if k = b then delB l b else (k, v) :: delB l b
theorem hp_del (l : List (Nat × Blk)) (n b : Nat) : (hp l n).set b none = hp (delB l b) n := by
  have : (fun x => if x = b then none else hmap l x) = hmap (delB l b) := by
    funext x
    induction l with
    | nil => simp [delB, hmap]
    | cons p l ih =>
      obtain ⟨c, v⟩ := p
      by_cases hc : c = b
      · subst hc
        simp only [delB, if_pos, hmap, ← ih]
        by_cases hx : x = c <;> simp [hx]
      · simp only [delB, if_neg hc, hmap, ← ih]
        by_cases hx : x = c
        · subst hx; simp [hc]
        · simp [hx]
  show Heap.mk _ _ = Heap.mk _ _
  simp only [hp, Heap.mk.injEq, and_true]
  exact this
theorem empty_hp : Heap.empty = hp [] 0 := by
  simp only [Heap.empty, hp, Heap.mk.injEq, and_true]
  funext x; rfl
theorem Wk.ofH {s : St} {l : List (Nat × SV)} {lb : List (Nat × Blk)} {n : Nat} (h : ∀ p ∈ l, s.σ p.1 = p.2) (hm : ∀ q ∈ lb, s.H.map q.1 = some q.2) (hn : s.H.nb ≤ n) : Wk s ⟨ofL l, hp lb n⟩ := by
  refine ⟨ofL_wk h, hn, fun b => ?_⟩
  show hmap lb b = none ∨ hmap lb b = s.H.map b
  clear h hn
  induction lb with
  | nil => exact .inl rfl
  | cons q lb ih =>
    obtain ⟨k, v⟩ := q
    rw [zm]
    by_cases hb : b = k
    · subst hb
      rw [if_pos rfl]
      exact .inr (hm (b, v) (by simp)).symm
    · rw [if_neg hb]
      exact ih (fun q hq => hm q (by simp [hq]))
attribute [go_sem] hp_nb hp_map hp_push zm hmap_nil hp_set hp_del setB delB empty_hp

def Heap.one (blk : Blk) : Heap := ⟨fun x => if x = 0 then some blk else none, 1⟩
theorem Fin.val {R : SV → Heap → Prop} {v : Value} {H : Heap} (h : R (.val v) ⟨fun _ => none, H.nb⟩) : Fin R (.val v) H :=
  ⟨⟨fun _ => none, H.nb⟩, ⟨rfl, fun _ => .inl rfl⟩, rfl, fun b blk hb => by simp at hb, h⟩
theorem Fin.own {R : SV → Heap → Prop} {b off n cap sz : Nat} {ex : Bool} {blk : Blk} {H : Heap} (hb : H.map b = some blk) (hn : noRowL blk.cells = true)
    (h : R (.own b off n cap sz ex) ⟨fun x => if x = b then some blk else none, H.nb⟩) : Fin R (.own b off n cap sz ex) H := by
  refine ⟨⟨fun x => if x = b then some blk else none, H.nb⟩, ⟨rfl, fun x => ?_⟩, rfl, fun x k hx => ?_, h⟩
  · by_cases hx : x = b
    · subst hx; right; simp [hb]
    · left; simp [hx]
  · by_cases hxb : x = b
    · subst hxb; simp at hx; subst hx; exact hn
    · simp [hxb] at hx
end Go.Sh

/-
  Results in memory of their own, in one form; calls that give such back; calls that write what they are handed.
-/
namespace Go.Sh
open Go Go.RowKit
variable {P : Program}

def isVal : SV → Bool
  | .val _ => true
  | _ => false
theorem isVal_of {s : SV} (h : isVal s = true) : ∃ v, s = .val v := by cases s <;> simp_all [isVal]

def FlatRes (n z : Nat) (cs : List SV) (r : SV) (H : Heap) : Prop :=
  ∃ b off cap ex blk, r = .own b off n cap z ex ∧ H.map b = some blk ∧ (blk.cells.drop off).take (n * z) = cs ∧ off + n * z ≤ blk.cells.length ∧ cs.all isVal = true
def OneRes (n z : Nat) (cs : List SV) (r : SV) (H : Heap) : Prop := r = .own 0 0 n n z false ∧ H = Heap.one ⟨cs, false⟩

theorem FlatRes.length {n z : Nat} {cs : List SV} {r : SV} {H : Heap} (h : FlatRes n z cs r H) : cs.length = n * z := by
  obtain ⟨b, off, cap, ex, blk, _, _, h3, h4, _⟩ := h
  rw [← h3]; simp; omega

theorem one_rel {n z : Nat} {cs : List SV} {j : JMap} {H : Heap} {w : World} {r : SV} {v : Value} (h : FlatRes n z cs r H) (hr : Rel j H w) (hv : VRel (OwnR j H) w j r v) :
    ∃ j', Rel j' (Heap.one ⟨cs, false⟩) w ∧ VRel (OwnR j' (Heap.one ⟨cs, false⟩)) w j' (.own 0 0 n n z false) v ∧ ∀ k, OwnR j' (Heap.one ⟨cs, false⟩) k → OwnR j H k := by
  have hlen := h.length
  obtain ⟨b, off, cap, ex, blk, rfl, hb, h3, h4, h5⟩ := h
  simp only [VRel] at hv
  obtain ⟨rb, base, a, cap', c, e, fr, g1, g2, g3, g4, g5, g6, g7, g8⟩ := hv
  obtain ⟨rb', base', k1, c', e', lo, hi, q1, q2, q3, q4, q5⟩ := hr.live b blk hb
  rw [g1] at k1
  obtain ⟨rfl, rfl⟩ := (by simpa using k1 : rb = rb' ∧ base = base')
  rw [g7] at q1
  obtain ⟨rfl, rfl, rfl⟩ := (by simpa using q1 : c = c' ∧ e = e' ∧ fr = (lo, hi))
  have hsub : ∀ k, OwnR (fun x => if x = 0 then some (rb, base + off) else none) (Heap.one ⟨cs, false⟩) k → OwnR j H k := by
    rintro k ⟨b', blk', base', h1, h2⟩
    simp only at h2
    split at h2
    · simp at h2
      obtain ⟨rfl, _⟩ := h2
      exact ⟨b, blk, base, hb, g1⟩
    · simp at h2
  refine ⟨fun x => if x = 0 then some (rb, base + off) else none, ⟨hr.tab.tr (Tr.weaken w hsub), ?_, ?_, ?_⟩, ?_, hsub⟩
  · intro b' p hp
    split at hp
    · rename_i h0; subst h0; simp [Heap.one]
    · simp at hp
  · intro b' blk' hb'
    simp only [Heap.one] at hb'
    split at hb'
    · rename_i h0
      subst h0
      simp at hb'; subst hb'
      refine ⟨rb, base + off, by simp, c, e, lo, hi, g7, q2, ?_, by simp, ?_⟩
      · show base + off + cs.length ≤ c.size
        omega
      · intro i s hs
        have hs' : cs[i]? = some s := hs
        have hil : i < n * z := by
          have := (List.getElem?_eq_some_iff.1 hs').1
          omega
        rw [← h3, List.getElem?_take, if_pos hil, List.getElem?_drop] at hs'
        obtain ⟨u, p1, p2⟩ := q5 (off + i) s hs'
        refine ⟨u, by simpa [Nat.add_assoc] using p1, ?_⟩
        have hsv : isVal s = true := by
          have : s ∈ cs := by
            have := List.mem_of_getElem? hs
            exact this
          exact (List.all_eq_true.1 h5) s this
        obtain ⟨x, rfl⟩ := isVal_of hsv
        simpa only [VRel] using p2
    · simp at hb'
  · intro x x' k k' rb1 ba ba' h1 h2 h3 h4
    simp only [Heap.one] at h1 h2
    split at h1 <;> split at h2
    · rename_i e1 e2; rw [e1, e2]
    all_goals simp at h1 h2
  · simp only [VRel]
    exact ⟨rb, base + off, a, cap', c, e, (lo, hi), by simp, g2, Nat.le_refl _, by omega, by simp, by simpa using g6, g7, by simpa using g8⟩

theorem isVal_noRow : ∀ {cs : List SV}, cs.all isVal = true → noRowL cs = true
  | [], _ => rfl
  | s :: cs, h => by
    simp only [List.all_cons, Bool.and_eq_true] at h
    obtain ⟨v, rfl⟩ := isVal_of h.1
    simp [noRowL, noRow, isVal_noRow h.2]
theorem isVal_shift {k : Nat} : ∀ {cs : List SV}, cs.all isVal = true → shiftL k cs = cs
  | [], _ => by simp only [shiftL]
  | s :: cs, h => by
    simp only [List.all_cons, Bool.and_eq_true] at h
    obtain ⟨v, rfl⟩ := isVal_of h.1
    simp only [shiftL, shift, isVal_shift h.2]
theorem nr_one {cs : List SV} (h : cs.all isVal = true) : nrHeap (Heap.one ⟨cs, false⟩) := by
  intro b blk hb
  simp only [Heap.one] at hb
  split at hb
  · simp at hb; subst hb; exact isVal_noRow h
  · simp at hb

theorem FlatRes.vals {n z : Nat} {cs : List SV} {r : SV} {H : Heap} (h : FlatRes n z cs r H) : cs.all isVal = true := by
  obtain ⟨b, off, cap, ex, blk, _, _, _, _, h5⟩ := h
  exact h5

theorem FCall.one {f : FuncId} {args : List SV} {n z : Nat} {cs : List SV} (h : FCall P f args (FlatRes n z cs)) : FCall P f args (OneRes n z cs) := by
  refine ⟨h.1, fun w vs hl ht => (h.2 w vs hl ht).mono ?_⟩
  rintro e w' ⟨v, r, j, H, h1, h2, h3, h4, h5, h6, h7, h8⟩
  obtain ⟨j', r', v', o'⟩ := one_rel h8 h3 h4
  exact ⟨v, _, j', _, h1, h2, r', v', fun k hk => h5 k (o' k hk), rfl, nr_one h8.vals, rfl, rfl⟩

theorem FCall.oneT {f : FuncId} {args : List SV} {n z : Nat} {cs : List SV} {u : Value} (h : FCall P f args (fun r H => ∃ r0, r = .tup [r0, .val u] ∧ FlatRes n z cs r0 H)) :
    FCall P f args (fun r H => r = .tup [.own 0 0 n n z false, .val u] ∧ H = Heap.one ⟨cs, false⟩) := by
  refine ⟨h.1, fun w vs hl ht => (h.2 w vs hl ht).mono ?_⟩
  rintro e w' ⟨v, r, j, H, h1, h2, h3, h4, h5, h6, h7, r0, rfl, h8⟩
  simp only [VRel, LRel] at h4
  obtain ⟨vs, rfl, x, rest, rfl, hx, y, rest', rfl, rfl, rfl⟩ := h4
  obtain ⟨j', r', v', o'⟩ := one_rel h8 h3 hx
  refine ⟨_, _, j', _, h1, h2, r', ?_, fun k hk => h5 k (o' k hk), by simp [noRow, noRowL], nr_one h8.vals, rfl, rfl⟩
  simp only [VRel, LRel]
  exact ⟨_, rfl, _, _, rfl, by simpa only [VRel] using v', _, _, rfl, rfl, rfl⟩

theorem Rel.fresh {j : JMap} {H : Heap} {w : World} (r : Rel j H w) {x : Nat} (h : H.nb ≤ x) : H.map x = none := by
  cases hx : H.map x with
  | none => rfl
  | some blk =>
    obtain ⟨rb, base, h1, _⟩ := r.live x blk hx
    have := r.dom x _ h1
    omega

theorem merge_one {j : JMap} {H : Heap} {w : World} (r : Rel j H w) {cs : List SV} {ex : Bool} (h : cs.all isVal = true) : H.merge (Heap.one ⟨cs, ex⟩) = H.push ⟨cs, ex⟩ := by
  show Heap.mk _ _ = Heap.mk _ _
  simp only [Heap.one, Heap.mk.injEq, and_true]
  funext x
  by_cases h1 : x < H.nb
  · have : x ≠ H.nb := by omega
    simp [h1, this]
  · by_cases h2 : x = H.nb
    · subst h2
      simp [isVal_shift h]
    · have h3 : x - H.nb ≠ 0 := by omega
      simp [h1, h2, h3, r.fresh (by omega : H.nb ≤ x)]

theorem FCall.callOne {f : FuncId} {args args' : List SV} {n z : Nat} {cs : List SV} {H : Heap} {K : SV → Heap → Prop} (h : FCall P f args' (OneRes n z cs)) (hc : cs.all isVal = true) (fu : Nat) (hv : viewL H fu args = some args')
    (k : K (.own H.nb 0 n n z false) (H.push ⟨cs, false⟩)) : @CallX P f args H ⟨K⟩ := by
  refine ⟨h.1, fun j w vs r hl => ((h.callS fu hv).2 j w vs r hl).mono ?_⟩
  rintro e w' ⟨r1, v, j', H', h1, h2, h3, h4, r0, H0, ⟨rfl, rfl⟩, rfl, rfl⟩
  refine ⟨_, v, j', _, h1, h2, h3, h4, ?_⟩
  rw [merge_one r hc]
  simpa only [shift, Nat.zero_add] using k

theorem FCall.callOneT {f : FuncId} {args args' : List SV} {n z : Nat} {cs : List SV} {u : Value} {H : Heap} {K : SV → Heap → Prop} (h : FCall P f args' (fun r H => r = .tup [.own 0 0 n n z false, .val u] ∧ H = Heap.one ⟨cs, false⟩)) (hc : cs.all isVal = true) (fu : Nat) (hv : viewL H fu args = some args')
    (k : K (.tup [.own H.nb 0 n n z false, .val u]) (H.push ⟨cs, false⟩)) : @CallX P f args H ⟨K⟩ := by
  refine ⟨h.1, fun j w vs r hl => ((h.callS fu hv).2 j w vs r hl).mono ?_⟩
  rintro e w' ⟨r1, v, j', H', h1, h2, h3, h4, r0, H0, ⟨rfl, rfl⟩, rfl, rfl⟩
  refine ⟨_, v, j', _, h1, h2, h3, h4, ?_⟩
  rw [merge_one r hc]
  simpa only [shift, shiftL, Nat.zero_add] using k

theorem LRel.vals {O : Nat → Prop} {w : World} {j : JMap} : ∀ (us vs : List Value), LRel O w j (us.map SV.val) vs ↔ vs = us
  | [], vs => by simp only [List.map_nil, LRel]
  | u :: us, vs => by
    simp only [List.map_cons, LRel, VRel]
    constructor
    · rintro ⟨v, rest, rfl, rfl, h⟩
      rw [(LRel.vals us rest).1 h]
    · rintro rfl
      exact ⟨u, us, rfl, rfl, (LRel.vals us us).2 rfl⟩
theorem FCall.callTup {f : FuncId} {args args' : List SV} {us : List Value} {H : Heap} {K : SV → Heap → Prop} (h : FCall P f args' (fun r _ => r = .tup (us.map .val))) (fu : Nat) (hv : viewL H fu args = some args')
    (k : K (.tup (us.map .val)) H) : @CallX P f args H ⟨K⟩ := by
  refine ⟨h.1, fun j w vs r hl => ?_⟩
  have hl' := viewL_sound r.live0 fu args args' vs hv (LRel.tr (Tr.weaken w (fun _ h => h.elim)) (fun _ _ h => h) args vs hl)
  refine (h.2 w vs hl' (r.tab.tr (Tr.weaken w (fun _ h => h.elim)))).mono ?_
  rintro e w' ⟨v, r0, j0, H0, h1, h2, h3, h4, h5, h6, h7, rfl⟩
  obtain ⟨r', nx⟩ := r.below h2
  refine ⟨_, v, j, H, h1, r', ?_, nx, k⟩
  simp only [VRel] at h4 ⊢
  obtain ⟨ws, e1, e2⟩ := h4
  exact ⟨ws, e1, (LRel.vals us ws).2 ((LRel.vals us ws).1 e2)⟩

theorem PCall.callV {f : FuncId} {args args' : List SV} {H : Heap} {T : SV} {K : SV → Heap → Prop} (h : PCall P f args' T) (fu : Nat) (hv : viewL H fu args = some args') (k : K T H) : @CallX P f args H ⟨K⟩ :=
  (h.callS fu hv).mono (fun r H' ⟨e1, e2⟩ => by rw [e1, e2]; exact k)
theorem PCall.callDV {f : FuncId} {args args' : List SV} {H : Heap} {T : SV} {K : SV → Heap → Prop} (h : PCall P f args' T) (fu : Nat) (hv : viewL H fu args = some args') (k : K T H) : @CallD P f args H ⟨K⟩ :=
  ⟨T, h.callS fu hv, k⟩
theorem CallS.callX {f : FuncId} {args : List SV} {H : Heap} {Q K : SV → Heap → Prop} (h : CallS P f args H Q) (k : ∀ r H', Q r H' → K r H') : @CallX P f args H ⟨K⟩ := h.mono k
theorem ints_vals (L : List Int) : (ints L).all isVal = true := by simp [ints, isVal]
theorem one_view {n : Nat} {L : List Int} {r : SV} {H : Heap} (h : OneRes n 1 (ints L) r H) (hn : n = L.length) : view H 2 r = some (ri L) := by
  subst hn
  obtain ⟨rfl, rfl⟩ := h
  have e : (Heap.one ⟨ints L, false⟩).map 0 = some ⟨ints L, false⟩ := by simp [Heap.one]
  simp only [Sh.view, e, Nat.mul_one, List.drop_zero]
  rw [if_pos (by simp [ints])]
  have : (ints L).take L.length = ints L := by rw [← zh L, List.take_length]
  rw [this, viewL_ints, ri]

theorem view_own {H : Heap} {b n f cap : Nat} {ex : Bool} {e2 : Bool} {L : List Int} (hb : H.map b = some ⟨ints L, e2⟩) (hn : n = L.length) : view H (f + 1) (.own b 0 n cap 1 ex) = some (ri L) := by
  subst hn
  simp only [Sh.view, hb, Nat.mul_one, List.drop_zero]
  rw [if_pos (by simp [ints])]
  have : (ints L).take L.length = ints L := by rw [← zh L, List.take_length]
  rw [this, viewL_ints, ri]

theorem z6 {H : Heap} {f : Nat} {s s' : SV} {ss ss' : List SV} (h1 : view H f s = some s') (h2 : viewL H f ss = some ss') : viewL H f (s :: ss) = some (s' :: ss') := by
  simp only [viewL, h1, h2]
theorem z7 {H : Heap} {f : Nat} : viewL H f [] = some [] := by simp only [viewL]
theorem zf {H : Heap} {f n : Nat} {ex : Bool} {cs : List SV} : view H f (.row n ex cs) = some (.row n false cs) := by simp only [view]
theorem view_rowL {H : Heap} {f n : Nat} {ex : Bool} {L : List Int} (hn : n = L.length) : view H f (.row n ex (ints L)) = some (ri L) := by subst hn; simp only [view, ri]
theorem z8 {H : Heap} {f : Nat} {k : IntKind} {x : Int} : view H f (.val (.int k x)) = some (.val (.int k x)) := by simp only [view, viewV]
theorem zg {H : Heap} {f : Nat} {x : Bool} : view H f (.val (.bool x)) = some (.val (.bool x)) := by simp only [view, viewV]
theorem view_rptr {H : Heap} {f off : Nat} {cs : List SV} : view H f (.rptr cs off) = some (.rptr cs off) := by simp only [view]
theorem view_agg {H : Heap} {f : Nat} {cs cs' : List SV} (h : viewL H f cs = some cs') : view H (f + 1) (.agg cs) = some (.agg cs') := by simp only [view, h]
theorem view_optr {H : Heap} {f b off : Nat} {e : Bool} {cs cs' : List SV} (hb : H.map b = some ⟨cs, e⟩) (h : viewL H f cs = some cs') : view H (f + 1) (.optr b off) = some (.rptr cs' off) := by simp only [view, hb, h]
theorem view_clos {H : Heap} {f : Nat} {fn : Fn} {cs cs' : List SV} (h : viewL H f cs = some cs') : view H (f + 1) (.clos fn [] cs) = some (.clos fn [] cs') := by
  have : viewL H f [] = some [] := z7
  simp only [view, h, this]
theorem view_nil {H : Heap} {f : Nat} : view H f (.val (.slice none 0 0)) = some (ri []) := by simp only [view, viewV, ri, ints, List.map_nil, List.length_nil]
theorem Fin.agg {R : SV → Heap → Prop} {cs : List SV} {H : Heap} (hv : cs.all isVal = true) (h : R (.agg cs) ⟨fun _ => none, H.nb⟩) : Fin R (.agg cs) H :=
  ⟨⟨fun _ => none, H.nb⟩, ⟨rfl, fun _ => .inl rfl⟩, by simp only [noRow]; exact isVal_noRow hv, fun b blk hb => by simp at hb, h⟩
theorem tbf : (true == false) = false := rfl
theorem fbt : (false == true) = false := rfl
theorem tbt : (true == true) = true := rfl
theorem fbf : (false == false) = true := rfl
theorem flat_fin {n z cap b : Nat} {ex e2 : Bool} {cs : List SV} {H : Heap} (hn : cs.length = n * z) (hv : cs.all isVal = true) (hb : H.map b = some ⟨cs, e2⟩) : Fin (FlatRes n z cs) (.own b 0 n cap z ex) H := by
  refine Fin.own hb (isVal_noRow hv) ⟨b, 0, cap, ex, _, rfl, if_pos rfl, ?_, ?_, hv⟩
  · rw [List.drop_zero, ← hn, List.take_length]
  · simp [hn]
theorem fin_ints {L : List Int} {n cap b : Nat} {ex e2 : Bool} {H : Heap} (hn : n = L.length) (hb : H.map b = some ⟨ints L, e2⟩) : Fin (FlatRes n 1 (ints L)) (.own b 0 n cap 1 ex) H :=
  flat_fin (by simp [ints, hn]) (ints_vals L) hb
theorem Heap.ext' {H H' : Heap} (h1 : ∀ x, H.map x = H'.map x) (h2 : H.nb = H'.nb) : H = H' := by
  cases H; cases H'
  simp only at h1 h2
  simp only [Heap.mk.injEq]
  exact ⟨funext h1, h2⟩
theorem Heap.set_self {H : Heap} {b : Nat} {k : Option Blk} (h : H.map b = k) : H.set b k = H := by
  refine Heap.ext' (fun x => ?_) rfl
  simp only [Heap.set]
  split
  · rename_i e; rw [e, h]
  · rfl
attribute [go_sem] List.map_cons List.map_nil true_and and_true if_pos if_neg decide_eq_true decide_eq_false ibeq_t ibeq_f ibne_t ibne_f Int.toNat_natCast Nat.mul_one Nat.zero_add Nat.add_zero wrap_id ge_iff_le gt_iff_lt beq_iff_eq bne_iff_ne decide_eq_true_eq decide_eq_false_iff_not ints_get ints_set zh ints_append ints_replicate ri_eq List.length_cons List.length_nil List.all_cons List.all_nil List.cons_append List.nil_append List.append_nil Value.oneCell' Bool.and_self Bool.true_and Bool.and_true Bool.not_true Bool.not_false and_self implies_true true_implies false_implies forall_const false_and and_false IntKind.bits Bool.true_eq_false Bool.false_eq_true not_true_eq_false not_false_eq_true Option.map_some Option.map_none Option.isNone_some Option.isNone_none Option.isSome_some Option.isSome_none Nat.sub_zero Nat.zero_mul List.drop_zero Bool.false_and Bool.and_false Nat.sub_self List.replicate_one List.set_cons_zero List.set_cons_succ ints_take_self ints_snoc decide_true decide_false List.take_succ_cons List.take_zero List.take_nil List.drop_succ_cons List.drop_nil List.replicate_zero List.getElem?_cons_zero List.getElem?_cons_succ tbf fbt tbt fbf
end Go.Sh

/-
  Regions that draw their order, where a load and a store may change places because they lie in different blocks.
-/
namespace Go.Sh
open Go Go.RowKit
variable {P : Program}

def ldSlot : Op → Option Nat
  | .load _ (.tmp t) => some t
  | _ => none
def stSlot : Op → Option Nat
  | .store _ (.tmp t) _ => some t
  | _ => none
def apartV : SV → SV → Prop
  | .optr b _, .optr b' _ => b ≠ b'
  | .optr b _, .own b' _ _ _ _ _ => b ≠ b'
  | .rptr _ _, _ => True
  | _, _ => False
def SideP : List (Nat × Nat) → St → Prop
  | [], _ => True
  | p :: l, s => apartV (s.σ p.1) (s.σ p.2) ∧ SideP l s
theorem SideP.get : ∀ {D : List (Nat × Nat)} {s : St} {p : Nat × Nat}, SideP D s → p ∈ D → apartV (s.σ p.1) (s.σ p.2)
  | [], s, p, _, h => by simp at h
  | q :: l, s, p, hs, h => by
    rcases List.mem_cons.1 h with rfl | h
    · exact hs.1
    · exact SideP.get hs.2 h
def callOf : Op → Option (FuncId × List Operand)
  | .call ⟨.value (.func f), args, _⟩ => some (f, args.toList)
  | _ => none
def AnyC (P : Program) (f : FuncId) (args : List SV) (r : SV) : Prop := ∀ H, CallS P f args H (fun r' H' => r' = r ∧ H' = H)
def callAny (P : Program) (o : Option Oper) (s : St) : Prop := match o with
  | some o => (match callOf o.op, o.dst with | some (f, args), some d => AnyC P f (args.map (sval s.σ)) (s.σ d) | _, _ => False)
  | none => False
def SideC (P : Program) (ops : List Oper) : List Nat → St → Prop
  | [], _ => True
  | k :: C, s => callAny P (ops[k]?) s ∧ SideC P ops C s
theorem SideC.get {ops : List Oper} : ∀ {C : List Nat} {s : St} {k : Nat}, SideC P ops C s → k ∈ C → callAny P (ops[k]?) s
  | [], s, p, _, h => by simp at h
  | q :: l, s, p, hs, h => by
    rcases List.mem_cons.1 h with rfl | h
    · exact hs.1
    · exact SideC.get hs.2 h
def isBS : Op → Bool
  | .buildSlice _ _ _ => true
  | _ => false
def condOk (ops : Array Oper) (k i : Nat) (x y : Oper) (D : List (Nat × Nat)) (C : List Nat) : Bool :=
  (x.apart ops y && (match x.dst, callOf x.op with
    | some dx, some (_, args) => C.contains k && (List.range ops.size).all fun m => match ops[m]? with
        | some o => (decide (m < k) || args.all fun a => match a with | .tmp t => o.dst != some t | _ => true) && (decide (m = k) || o.dst != some dx)
        | none => true
    | _, _ => false)) ||
  x.apart ops y && (match ldSlot x.op with
    | some tx => ((List.range ops.size).all fun m => match ops[m]? with
        | some o => decide (m < k) || o.dst != some tx
        | none => true) &&
      ((match stSlot y.op with
        | some ty => D.contains (tx, ty) && (List.range ops.size).all fun m => match ops[m]? with
          | some o => o.dst != some ty || waitsT ops 6 y m
          | none => true
        | none => false) || D.contains (tx, tx) ||
      (match y.dst with
        | some td => isBS y.op && D.contains (tx, td) && (List.range ops.size).all fun m => match ops[m]? with
          | some o => decide (m = i) || o.dst != some td
          | none => true
        | none => false))
    | none => false)
def drawOk2 (ops : Array Oper) (D : List (Nat × Nat)) (C : List Nat) : Bool :=
  (List.range ops.size).all fun i => match ops[i]? with
    | some y => (y.after.all fun e => !Region.binds .any e || decide (e.on < i)) && (List.range i).all fun k => match ops[k]? with
      | some x => waits y k || pairOk ops x y || waitsT ops 6 y k || condOk ops k i x y D C
      | none => true
    | none => true

theorem StepD.swapK {n : Nat} {ops : Array Oper} {x y : Oper} {s s1 s2 : St} (hap : x.apart ops y = true)
    (hk : ∀ rx ry H1 H2, OpD P x.op (sval s.σ) s.H rx H1 → OpD P y.op (sval s.σ) H1 ry H2 → ∃ H', OpD P y.op (sval s.σ) s.H ry H' ∧ OpD P x.op (sval s.σ) H' rx H2) (h1 : StepD P n ops x s s1) (h2 : StepD P n ops y s1 s2) :
    ∃ s1', StepD P n ops y s s1' ∧ StepD P n ops x s1' s2 := by
  obtain ⟨a1, a2, a3⟩ := Oper.apart_spec hap
  obtain ⟨d1, h1⟩ := h1
  obtain ⟨d2, h2⟩ := h2
  have gy : ∀ r, gst ops y (updO s.σ x.dst r) = gst ops y s.σ := fun r => apart_gst a1
  have gx : ∀ r, gst ops x (updO s.σ y.dst r) = gst ops x s.σ := fun r => apart_gst a3
  have oy : ∀ r z, z ∈ y.op.operands → sval (updO s.σ x.dst r) z = sval s.σ z := fun r z hz => sval_updO (fun t ht => apart_op (a1 t ht) hz)
  have ox : ∀ r z, z ∈ x.op.operands → sval (updO s.σ y.dst r) z = sval s.σ z := fun r z hz => sval_updO (fun t ht => apart_op (a3 t ht) hz)
  obtain ⟨σ1, H1⟩ := s1
  obtain ⟨σ2, H2⟩ := s2
  rcases h1 with ⟨g1, rx, o1, e1⟩ | ⟨g1, eH1, e1⟩ <;> rcases h2 with ⟨g2, ry, o2, e2⟩ | ⟨g2, eH2, e2⟩ <;> simp only at * <;> subst e1 <;> subst e2
  · rw [gy] at g2
    have o2' : OpD P y.op (sval s.σ) H1 ry H2 := OpD.congr (oy rx) o2
    obtain ⟨H', k1, k2⟩ := hk rx ry H1 H2 o1 o2'
    exact ⟨⟨updO s.σ y.dst ry, H'⟩, ⟨d2, .inl ⟨g2, ry, k1, rfl⟩⟩, ⟨d1, .inl ⟨by rw [gx]; exact g1, rx, OpD.congr (fun z hz => (ox ry z hz).symm) k2, updO_comm a2⟩⟩⟩
  · rw [gy] at g2
    subst eH2
    exact ⟨⟨updO s.σ y.dst (.tup []), s.H⟩, ⟨d2, .inr ⟨g2, rfl, rfl⟩⟩, ⟨d1, .inl ⟨by rw [gx]; exact g1, rx, OpD.congr (fun z hz => (ox (.tup []) z hz).symm) o1, updO_comm a2⟩⟩⟩
  · rw [gy] at g2
    subst eH1
    exact ⟨⟨updO s.σ y.dst ry, H2⟩, ⟨d2, .inl ⟨g2, ry, OpD.congr (oy (.tup [])) o2, rfl⟩⟩, ⟨d1, .inr ⟨by rw [gx]; exact g1, rfl, updO_comm a2⟩⟩⟩
  · rw [gy] at g2
    subst eH1 eH2
    exact ⟨⟨updO s.σ y.dst (.tup []), s.H⟩, ⟨d2, .inr ⟨g2, rfl, rfl⟩⟩, ⟨d1, .inr ⟨by rw [gx]; exact g1, rfl, updO_comm a2⟩⟩⟩

theorem StepD.swapN {n : Nat} {ops : Array Oper} {x y : Oper} {s s1 s2 : St} (hap : x.apart ops y = true) (h1 : StepD P n ops x s s1) (h2 : StepD P n ops y s1 s2) (hg : gst ops y s1.σ = some false) :
    ∃ s1', StepD P n ops y s s1' ∧ StepD P n ops x s1' s2 := by
  obtain ⟨a1, a2, a3⟩ := Oper.apart_spec hap
  obtain ⟨d1, h1⟩ := h1
  obtain ⟨d2, h2⟩ := h2
  have gy : ∀ r, gst ops y (updO s.σ x.dst r) = gst ops y s.σ := fun r => apart_gst a1
  have gx : ∀ r, gst ops x (updO s.σ y.dst r) = gst ops x s.σ := fun r => apart_gst a3
  have ox : ∀ r z, z ∈ x.op.operands → sval (updO s.σ y.dst r) z = sval s.σ z := fun r z hz => sval_updO (fun t ht => apart_op (a3 t ht) hz)
  obtain ⟨σ1, H1⟩ := s1
  obtain ⟨σ2, H2⟩ := s2
  rcases h2 with ⟨g2, ry, o2, e2⟩ | ⟨g2, eH2, e2⟩
  · rw [g2] at hg; simp at hg
  · rcases h1 with ⟨g1, rx, o1, e1⟩ | ⟨g1, eH1, e1⟩ <;> simp only at * <;> subst e1 <;> subst e2
    · rw [gy] at g2
      subst eH2
      exact ⟨⟨updO s.σ y.dst (.tup []), s.H⟩, ⟨d2, .inr ⟨g2, rfl, rfl⟩⟩, ⟨d1, .inl ⟨by rw [gx]; exact g1, rx, OpD.congr (fun z hz => (ox (.tup []) z hz).symm) o1, updO_comm a2⟩⟩⟩
    · rw [gy] at g2
      subst eH1 eH2
      exact ⟨⟨updO s.σ y.dst (.tup []), s.H⟩, ⟨d2, .inr ⟨g2, rfl, rfl⟩⟩, ⟨d1, .inr ⟨by rw [gx]; exact g1, rfl, updO_comm a2⟩⟩⟩
theorem StepD.swapK2 {n : Nat} {ops : Array Oper} {x y : Oper} {s s1 s2 : St} {r : SV} {td : Nat} (hap : x.apart ops y = true) (hd : y.dst = some td) (hr : s2.σ td = r)
    (hk : ∀ rx H1 H2, OpD P x.op (sval s.σ) s.H rx H1 → OpD P y.op (sval s.σ) H1 r H2 → ∃ H', OpD P y.op (sval s.σ) s.H r H' ∧ OpD P x.op (sval s.σ) H' rx H2) (h1 : StepD P n ops x s s1) (h2 : StepD P n ops y s1 s2) (hg : gst ops y s1.σ = some true) :
    ∃ s1', StepD P n ops y s s1' ∧ StepD P n ops x s1' s2 := by
  obtain ⟨a1, a2, a3⟩ := Oper.apart_spec hap
  obtain ⟨d1, h1⟩ := h1
  obtain ⟨d2, h2⟩ := h2
  have gy : ∀ r, gst ops y (updO s.σ x.dst r) = gst ops y s.σ := fun r => apart_gst a1
  have gx : ∀ r, gst ops x (updO s.σ y.dst r) = gst ops x s.σ := fun r => apart_gst a3
  have oy : ∀ r z, z ∈ y.op.operands → sval (updO s.σ x.dst r) z = sval s.σ z := fun r z hz => sval_updO (fun t ht => apart_op (a1 t ht) hz)
  have ox : ∀ r z, z ∈ x.op.operands → sval (updO s.σ y.dst r) z = sval s.σ z := fun r z hz => sval_updO (fun t ht => apart_op (a3 t ht) hz)
  obtain ⟨σ1, H1⟩ := s1
  obtain ⟨σ2, H2⟩ := s2
  rcases h2 with ⟨g2, ry, o2, e2⟩ | ⟨g2, eH2, e2⟩
  · have hry : ry = r := by rw [← hr]; simp only at e2; rw [e2, hd]; simp [updO, upd]
    subst hry
    rcases h1 with ⟨g1, rx, o1, e1⟩ | ⟨g1, eH1, e1⟩ <;> simp only at * <;> subst e1 <;> subst e2
    · rw [gy] at g2
      have o2' : OpD P y.op (sval s.σ) H1 ry H2 := OpD.congr (oy rx) o2
      obtain ⟨H', k1, k2⟩ := hk rx H1 H2 o1 o2'
      exact ⟨⟨updO s.σ y.dst ry, H'⟩, ⟨d2, .inl ⟨g2, ry, k1, rfl⟩⟩, ⟨d1, .inl ⟨by rw [gx]; exact g1, rx, OpD.congr (fun z hz => (ox ry z hz).symm) k2, updO_comm a2⟩⟩⟩
    · rw [gy] at g2
      subst eH1
      exact ⟨⟨updO s.σ y.dst ry, H2⟩, ⟨d2, .inl ⟨g2, ry, OpD.congr (oy (.tup [])) o2, rfl⟩⟩, ⟨d1, .inr ⟨by rw [gx]; exact g1, rfl, updO_comm a2⟩⟩⟩
  · rw [g2] at hg; simp at hg

theorem OpD.ldst {ox oy : Op} {tx ty : Nat} {σ : Slots} (hx : ldSlot ox = some tx) (hy : stSlot oy = some ty) (ha : apartV (σ tx) (σ ty)) {H H1 H2 : Heap} {rx ry : SV} (h1 : OpD P ox (sval σ) H rx H1) (h2 : OpD P oy (sval σ) H1 ry H2) :
    ∃ H', OpD P oy (sval σ) H ry H' ∧ OpD P ox (sval σ) H' rx H2 := by
  cases ox with
  | load t a =>
    cases a with
    | tmp t1 =>
      simp only [ldSlot, Option.some.injEq] at hx; subst hx
      cases oy with
      | store t2 b v =>
        cases b with
        | tmp t3 =>
          simp only [stSlot, Option.some.injEq] at hy; subst hy
          simp only [OpD, userCall, sop, sval_tmp] at h1 h2 ⊢
          cases hl : sload P H t (σ t1) with
          | none => rw [hl] at h1; simp at h1
          | some r =>
            rw [hl] at h1
            simp at h1
            obtain ⟨rfl, rfl⟩ := h1
            refine ⟨H2, h2, ?_⟩
            cases hs : sstore P H t2 (σ t3) (sval σ v) with
            | none => rw [hs] at h2; simp at h2
            | some H3 =>
              rw [hs] at h2
              simp at h2
              obtain ⟨_, rfl⟩ := h2
              have : sload P H3 t (σ t1) = some r := by
                rw [← hl]
                cases hx : σ t1 with
                | rptr cs off => rfl
                | optr b off =>
                  rw [hx] at ha
                  cases hy : σ t3 with
                  | optr b' off' =>
                    rw [hy] at ha hs
                    simp only [apartV] at ha
                    simp only [sstore] at hs
                    split at hs
                    · split at hs
                      · simp at hs
                        subst hs
                        simp only [sload, Heap.set]
                        rw [if_neg ha]
                      · simp at hs
                    · simp at hs
                  | own _ _ _ _ _ _ => rw [hy] at hs; simp [sstore] at hs
                  | _ => rw [hy] at ha; simp [apartV] at ha
                | _ => rw [hx] at ha; simp [apartV] at ha
              rw [this]
        | _ => simp [stSlot] at hy
      | _ => simp [stSlot] at hy
    | _ => simp [ldSlot] at hx
  | _ => simp [ldSlot] at hx

theorem OpD.ldr {ox oy : Op} {tx : Nat} {σ : Slots} (hx : ldSlot ox = some tx) (ha : apartV (σ tx) (σ tx)) {H H1 H2 : Heap} {rx ry : SV} (h1 : OpD P ox (sval σ) H rx H1) (h2 : OpD P oy (sval σ) H1 ry H2) :
    ∃ H', OpD P oy (sval σ) H ry H' ∧ OpD P ox (sval σ) H' rx H2 := by
  cases ox with
  | load t a =>
    cases a with
    | tmp t1 =>
      simp only [ldSlot, Option.some.injEq] at hx; subst hx
      simp only [OpD, userCall, sop, sval_tmp] at h1 ⊢
      cases hl : sload P H t (σ t1) with
      | none => rw [hl] at h1; simp at h1
      | some r =>
        rw [hl] at h1
        simp at h1
        obtain ⟨rfl, rfl⟩ := h1
        refine ⟨H2, h2, ?_⟩
        have : sload P H2 t (σ t1) = some r := by
          rw [← hl]
          cases hx : σ t1 with
          | rptr cs off => rfl
          | optr b off => rw [hx] at ha; simp [apartV] at ha
          | _ => rw [hx] at ha; simp [apartV] at ha
        rw [this]
    | _ => simp [ldSlot] at hx
  | _ => simp [ldSlot] at hx
theorem OpD.ldbs {ox oy : Op} {tx : Nat} {σ : Slots} (hx : ldSlot ox = some tx) (hy : isBS oy = true) {H H1 H2 : Heap} {rx ry : SV} (ha : apartV (σ tx) ry) (h1 : OpD P ox (sval σ) H rx H1) (h2 : OpD P oy (sval σ) H1 ry H2) :
    ∃ H', OpD P oy (sval σ) H ry H' ∧ OpD P ox (sval σ) H' rx H2 := by
  cases ox with
  | load t a =>
    cases a with
    | tmp t1 =>
      simp only [ldSlot, Option.some.injEq] at hx; subst hx
      cases oy with
      | buildSlice t2 m ps =>
        simp only [OpD, userCall, sop, sval_tmp] at h1 h2 ⊢
        cases hl : sload P H t (σ t1) with
        | none => rw [hl] at h1; simp at h1
        | some r =>
          rw [hl] at h1
          simp at h1
          obtain ⟨rfl, rfl⟩ := h1
          refine ⟨H2, h2, ?_⟩
          have : sload P H2 t (σ t1) = some r := by
            rw [← hl]
            cases hx : σ t1 with
            | rptr cs off => rfl
            | optr b off =>
              rw [hx] at ha
              unfold sbuildSlice at h2
              (repeat' split at h2) <;> simp_all
              all_goals
                obtain ⟨rfl, rfl⟩ := h2
                simp only [apartV] at ha
                simp only [sload, Heap.push]
                rw [if_neg ha]
                simpa only [sload] using hl
            | _ => rw [hx] at ha; simp [apartV] at ha
          rw [this]
      | _ => simp [isBS] at hy
    | _ => simp [ldSlot] at hx
  | _ => simp [ldSlot] at hx

theorem StepD.swapC {n : Nat} {ops : Array Oper} {x y : Oper} {s s1 s2 : St} {r : SV} {d : Nat} (hap : x.apart ops y = true) (hd : x.dst = some d) (hr : s1.σ d = r)
    (hk : ∀ ry H1 H2, OpD P x.op (sval s.σ) s.H r H1 → OpD P y.op (sval s.σ) H1 ry H2 → ∃ H', OpD P y.op (sval s.σ) s.H ry H' ∧ OpD P x.op (sval s.σ) H' r H2) (h1 : StepD P n ops x s s1) (h2 : StepD P n ops y s1 s2) :
    ∃ s1', StepD P n ops y s s1' ∧ StepD P n ops x s1' s2 := by
  obtain ⟨a1, a2, a3⟩ := Oper.apart_spec hap
  obtain ⟨d1, h1⟩ := h1
  obtain ⟨d2, h2⟩ := h2
  have gy : ∀ r, gst ops y (updO s.σ x.dst r) = gst ops y s.σ := fun r => apart_gst a1
  have gx : ∀ r, gst ops x (updO s.σ y.dst r) = gst ops x s.σ := fun r => apart_gst a3
  have oy : ∀ r z, z ∈ y.op.operands → sval (updO s.σ x.dst r) z = sval s.σ z := fun r z hz => sval_updO (fun t ht => apart_op (a1 t ht) hz)
  have ox : ∀ r z, z ∈ x.op.operands → sval (updO s.σ y.dst r) z = sval s.σ z := fun r z hz => sval_updO (fun t ht => apart_op (a3 t ht) hz)
  obtain ⟨σ1, H1⟩ := s1
  obtain ⟨σ2, H2⟩ := s2
  rcases h1 with ⟨g1, rx, o1, e1⟩ | ⟨g1, eH1, e1⟩
  · have hrx : rx = r := by rw [← hr]; simp only at e1; rw [e1, hd]; simp [updO, upd]
    subst hrx
    rcases h2 with ⟨g2, ry, o2, e2⟩ | ⟨g2, eH2, e2⟩ <;> simp only at * <;> subst e1 <;> subst e2
    · rw [gy] at g2
      have o2' : OpD P y.op (sval s.σ) H1 ry H2 := OpD.congr (oy rx) o2
      obtain ⟨H', k1, k2⟩ := hk ry H1 H2 o1 o2'
      exact ⟨⟨updO s.σ y.dst ry, H'⟩, ⟨d2, .inl ⟨g2, ry, k1, rfl⟩⟩, ⟨d1, .inl ⟨by rw [gx]; exact g1, rx, OpD.congr (fun z hz => (ox ry z hz).symm) k2, updO_comm a2⟩⟩⟩
    · rw [gy] at g2
      subst eH2
      exact ⟨⟨updO s.σ y.dst (.tup []), s.H⟩, ⟨d2, .inr ⟨g2, rfl, rfl⟩⟩, ⟨d1, .inl ⟨by rw [gx]; exact g1, rx, OpD.congr (fun z hz => (ox (.tup []) z hz).symm) o1, updO_comm a2⟩⟩⟩
  · rcases h2 with ⟨g2, ry, o2, e2⟩ | ⟨g2, eH2, e2⟩ <;> simp only at * <;> subst e1 <;> subst e2
    · rw [gy] at g2
      subst eH1
      exact ⟨⟨updO s.σ y.dst ry, H2⟩, ⟨d2, .inl ⟨g2, ry, OpD.congr (oy (.tup [])) o2, rfl⟩⟩, ⟨d1, .inr ⟨by rw [gx]; exact g1, rfl, updO_comm a2⟩⟩⟩
    · rw [gy] at g2
      subst eH1 eH2
      exact ⟨⟨updO s.σ y.dst (.tup []), s.H⟩, ⟨d2, .inr ⟨g2, rfl, rfl⟩⟩, ⟨d1, .inr ⟨by rw [gx]; exact g1, rfl, updO_comm a2⟩⟩⟩
theorem OpD.anyc {ox oy : Op} {f : FuncId} {args : List Operand} {σ : Slots} (hx : callOf ox = some (f, args)) {H H1 H2 : Heap} {r ry : SV} (ha : AnyC P f (args.map (sval σ)) r) (h1 : OpD P ox (sval σ) H r H1) (h2 : OpD P oy (sval σ) H1 ry H2) :
    ∃ H', OpD P oy (sval σ) H ry H' ∧ OpD P ox (sval σ) H' r H2 := by
  cases ox with
  | call c =>
    obtain ⟨callee, as, ats⟩ := c
    cases callee with
    | value v =>
      cases v with
      | func g =>
        simp only [callOf, Option.some.injEq, Prod.mk.injEq] at hx
        obtain ⟨rfl, rfl⟩ := hx
        simp only [OpD, userCall] at h1 ⊢
        obtain ⟨rfl, _⟩ := h1
        refine ⟨H2, h2, rfl, ?_⟩
        simp only [wpCall, sval_func, List.nil_append, List.append_nil]
        exact ha H2
      | _ => simp [callOf] at hx
    | _ => simp [callOf] at hx
  | _ => simp [callOf] at hx

theorem StepD.keep {n : Nat} {ops : Array Oper} {x : Oper} {s s1 : St} {t : Nat} (h : StepD P n ops x s s1) (ht : x.dst ≠ some t) : s1.σ t = s.σ t := by
  have : ∀ r, updO s.σ x.dst r t = s.σ t := fun r => by
    cases hd : x.dst with
    | none => rfl
    | some d =>
      have : t ≠ d := fun e => ht (by rw [hd, e])
      simp [updO, upd, this]
  rcases h.2 with ⟨_, r, _, e⟩ | ⟨_, _, e⟩
  · rw [e, this]
  · rw [e, this]
theorem RunD.keep {n : Nat} {ops : Array Oper} {t : Nat} : ∀ {l : List Nat} {s s' : St}, RunD P n ops l s s' → (∀ m ∈ l, ∀ o, ops[m]? = some o → o.dst ≠ some t) → s'.σ t = s.σ t
  | [], s, s', h, _ => by simp only [RunD] at h; rw [h]
  | i :: l, s, s', h, ht => by
    simp only [RunD] at h
    obtain ⟨o, s1, ho, h1, h2⟩ := h
    rw [RunD.keep h2 (fun m hm => ht m (by simp [hm])), h1.keep (ht i (by simp) o ho)]

def FrontOk (P : Program) (ops : Array Oper) (y : Oper) (i : Nat) (s' : St) : List Nat → List Nat → Prop
  | [], _ => True
  | k :: l1, l2 => (∀ x, ops[k]? = some x → pairOk ops x y = true ∨ (∃ f args d, x.apart ops y = true ∧ callOf x.op = some (f, args) ∧ x.dst = some d ∧ AnyC P f (args.map (sval s'.σ)) (s'.σ d) ∧ (∀ m ∈ k :: (l1 ++ i :: l2), ∀ o, ops[m]? = some o → ∀ t, .tmp t ∈ args → o.dst ≠ some t) ∧ ∀ m ∈ l1 ++ i :: l2, ∀ o, ops[m]? = some o → o.dst ≠ some d) ∨ ∃ tx, x.apart ops y = true ∧ ldSlot x.op = some tx ∧ (∀ m ∈ k :: (l1 ++ i :: l2), ∀ o, ops[m]? = some o → o.dst ≠ some tx) ∧
      ((∃ ty, stSlot y.op = some ty ∧ apartV (s'.σ tx) (s'.σ ty) ∧ ∀ m ∈ k :: (l1 ++ i :: l2), ∀ o, ops[m]? = some o → o.dst ≠ some ty) ∨
       apartV (s'.σ tx) (s'.σ tx) ∨
       (∃ td, isBS y.op = true ∧ y.dst = some td ∧ apartV (s'.σ tx) (s'.σ td) ∧ ∀ m ∈ k :: (l1 ++ l2), ∀ o, ops[m]? = some o → o.dst ≠ some td))) ∧ FrontOk P ops y i s' l1 l2

theorem runD_front2 {n : Nat} {ops : Array Oper} {i : Nat} {y : Oper} (hy : ops[i]? = some y) : ∀ (l1 : List Nat) (l2 : List Nat) (s s' : St), FrontOk P ops y i s' l1 l2 →
    RunD P n ops (l1 ++ i :: l2) s s' → RunD P n ops (i :: (l1 ++ l2)) s s'
  | [], l2, s, s', _, h => h
  | k :: l1, l2, s, s', hp, h => by
    simp only [List.cons_append, RunD] at h
    obtain ⟨x, s1, hx, h1, h2⟩ := h
    have h3 := runD_front2 hy l1 l2 s1 s' hp.2 h2
    simp only [RunD] at h3
    obtain ⟨y', s2, hy', h4, h5⟩ := h3
    rw [hy] at hy'
    simp at hy'; subst hy'
    have hsw : ∃ s1', StepD P n ops y s s1' ∧ StepD P n ops x s1' s2 := by
      rcases hp.1 x hx with hp | ⟨f, args, d, ha, hc, hd, hany, hma, hmd⟩ | ⟨tx, ha, hl, hmx, hw⟩
      · exact StepD.swap hp h1 h4
      · have hkeep : ∀ t, (∀ m ∈ k :: (l1 ++ i :: l2), ∀ o, ops[m]? = some o → o.dst ≠ some t) → s'.σ t = s.σ t := fun t ht => by
          rw [RunD.keep h5 (fun m hm => ht m (by simp at hm ⊢; rcases hm with h | h <;> simp [h])), h4.keep (ht i (by simp) y hy), h1.keep (ht k (by simp) x hx)]
        have hargs : args.map (sval s'.σ) = args.map (sval s.σ) := List.map_congr_left (fun a ham => by
          cases a with
          | tmp t => exact hkeep t (fun m hm o ho => hma m hm o ho t ham)
          | _ => rfl)
        have hdv : s'.σ d = s1.σ d := by
          rw [RunD.keep h5 (fun m hm => hmd m (by simp at hm ⊢; rcases hm with h | h <;> simp [h])), h4.keep (hmd i (by simp) y hy)]
        rw [hargs, hdv] at hany
        exact StepD.swapC ha hd rfl (fun ry H1 H2 g1 g2 => OpD.anyc hc hany g1 g2) h1 h4
      · have hkeep : ∀ t, (∀ m ∈ k :: (l1 ++ i :: l2), ∀ o, ops[m]? = some o → o.dst ≠ some t) → s'.σ t = s.σ t := fun t ht => by
          rw [RunD.keep h5 (fun m hm => ht m (by simp at hm ⊢; rcases hm with h | h <;> simp [h])), h4.keep (ht i (by simp) y hy), h1.keep (ht k (by simp) x hx)]
        rcases hw with ⟨ty, hst, hv, hmy⟩ | hv | ⟨td, hbs, hd, hv, hmd⟩
        · rw [hkeep tx hmx, hkeep ty hmy] at hv
          exact StepD.swapK ha (fun rx ry H1 H2 g1 g2 => OpD.ldst hl hst hv g1 g2) h1 h4
        · rw [hkeep tx hmx] at hv
          exact StepD.swapK ha (fun rx ry H1 H2 g1 g2 => OpD.ldr hl hv g1 g2) h1 h4
        · rw [hkeep tx hmx, RunD.keep h5 (fun m hm => hmd m (by simp at hm ⊢; rcases hm with h | h <;> simp [h]))] at hv
          rcases h4.2 with ⟨hg, r, ho, e⟩ | ⟨hg, eH, e⟩
          · have er : s2.σ td = r := by rw [e, hd]; simp [updO, upd]
            rw [er] at hv
            exact StepD.swapK2 ha hd er (fun rx H1 H2 g1 g2 => OpD.ldbs hl hbs hv g1 g2) h1 h4 hg
          · exact StepD.swapN ha h1 h4 hg
    obtain ⟨s1', g1, g2⟩ := hsw
    simp only [List.cons_append, RunD]
    exact ⟨y, s1', hy, g1, x, s2, hx, g2, h5⟩

theorem frontOk_of {ops : Array Oper} {y : Oper} {i : Nat} {s' : St} {D : List (Nat × Nat)} {C : List Nat} (hside : SideP D s') (hsc : SideC P ops.toList C s') : ∀ (l1 l2 : List Nat), (l1 ++ i :: l2).Pairwise (· < ·) →
    (∀ k ∈ l1, ∀ x, ops[k]? = some x → pairOk ops x y = true ∨ condOk ops k i x y D C = true) → (∀ m ∈ l1 ++ i :: l2, waitsT ops 6 y m = true → False) → (∀ m ∈ l1 ++ i :: l2, m < ops.size) → FrontOk P ops y i s' l1 l2
  | [], _, _, _, _, _ => trivial
  | k :: l1, l2, hs, hp, hw, hz => by
    have hs0 := hs
    simp only [List.cons_append, List.pairwise_cons] at hs
    refine ⟨fun x hx => ?_, frontOk_of hside hsc l1 l2 hs.2 (fun k' hk' => hp k' (by simp [hk'])) (fun m hm => hw m (by rw [List.cons_append]; exact List.mem_cons_of_mem _ hm)) (fun m hm => hz m (by rw [List.cons_append]; exact List.mem_cons_of_mem _ hm))⟩
    have hmem : ∀ m, m ∈ k :: (l1 ++ i :: l2) → m ∈ k :: l1 ++ i :: l2 := fun m h => by simpa using h
    have hge : ∀ m ∈ k :: (l1 ++ i :: l2), ¬ m < k := fun m hm => by
      rcases List.mem_cons.1 hm with rfl | h
      · omega
      · have := hs.1 m h; omega
    rcases hp k (by simp) x hx with h | h
    · exact .inl h
    · right
      rw [condOk, Bool.or_eq_true] at h
      rcases h with h | h
      · left
        simp only [Bool.and_eq_true] at h
        obtain ⟨h1, h2⟩ := h
        split at h2
        · rename_i dx f args e1 e2
          simp only [Bool.and_eq_true] at h2
          have hg := hsc.get (k := k) (by simpa using h2.1)
          rw [Array.getElem?_toList, hx] at hg
          simp only [callAny, e1, e2] at hg
          refine ⟨f, args, dx, h1, e2, e1, hg, fun m hm o ho t ht => ?_, fun m hm o ho => ?_⟩
          · have := List.all_eq_true.1 h2.2 m (by simpa using hz m (hmem m hm))
            rw [ho] at this
            simp only [Bool.and_eq_true, Bool.or_eq_true, decide_eq_true_eq] at this
            have := List.all_eq_true.1 (this.1.resolve_left (hge m hm)) _ ht
            simpa using this
          · have := List.all_eq_true.1 h2.2 m (by simpa using hz m (by simpa using List.mem_cons_of_mem k hm))
            rw [ho] at this
            simp only [Bool.and_eq_true, Bool.or_eq_true, decide_eq_true_eq, bne_iff_ne, ne_eq] at this
            refine this.2.resolve_left (fun e => ?_)
            have := hs.1 m hm
            omega
        · cases h2
      right
      simp only [Bool.and_eq_true] at h
      obtain ⟨h1, h2⟩ := h
      split at h2
      · rename_i tx e1
        simp only [Bool.and_eq_true, Bool.or_eq_true] at h2
        obtain ⟨h3, h4⟩ := h2
        refine ⟨tx, h1, e1, fun m hm o ho => ?_, ?_⟩
        · have := List.all_eq_true.1 h3 m (by simpa using hz m (hmem m hm))
          rw [ho] at this
          simp only [Bool.or_eq_true, decide_eq_true_eq, bne_iff_ne, ne_eq] at this
          exact this.resolve_left (hge m hm)
        · rcases h4 with (h4 | h4) | h4
          · left
            split at h4
            · rename_i ty e2
              simp only [Bool.and_eq_true] at h4
              refine ⟨ty, e2, hside.get (p := (tx, ty)) (by simpa using h4.1), fun m hm o ho e => ?_⟩
              have := List.all_eq_true.1 h4.2 m (by simpa using hz m (hmem m hm))
              rw [ho] at this
              simp only [Bool.or_eq_true, bne_iff_ne, ne_eq] at this
              rcases this with g | g
              · exact g e
              · exact hw m (hmem m hm) g
            · cases h4
          · exact .inr (.inl (hside.get (p := (tx, tx)) (by simpa using h4)))
          · right; right
            split at h4
            · rename_i td e2
              simp only [Bool.and_eq_true] at h4
              refine ⟨td, h4.1.1, e2, hside.get (p := (tx, td)) (by simpa using h4.1.2), fun m hm o ho => ?_⟩
              have hm' : m ∈ k :: (l1 ++ i :: l2) := by simp at hm ⊢; rcases hm with h | h | h <;> simp [h]
              have := List.all_eq_true.1 h4.2 m (by simpa using hz m (hmem m hm'))
              rw [ho] at this
              simp only [Bool.or_eq_true, decide_eq_true_eq, bne_iff_ne, ne_eq] at this
              refine this.resolve_left (fun e => ?_)
              subst e
              have hnd : (k :: l1 ++ m :: l2).Nodup := hs0.imp (fun h => by omega)
              have hnd2 : m ∉ k :: (l1 ++ l2) := by
                have := List.perm_middle.nodup_iff.1 hnd
                rw [List.nodup_cons] at this
                simpa using this.1
              exact hnd2 hm
            · cases h4
      · cases h2

theorem wpAny_of_run2 {n : Nat} {ops : Array Oper} {Q : Exit → Act → World → Prop} {D : List (Nat × Nat)} {C : List Nat} (hok : drawOk2 ops D C = true) (s' : St) (hside : SideP D s') (hsc : SideC P ops.toList C s') : ∀ (fuel : Nat) (listed : Array Bool) (s : St) (j : JMap) (a : Act) (w : World), listed.size = ops.size → ClosedL ops listed →
    (left ops.size listed).length ≤ fuel → RunD P n ops (left ops.size listed) s s' → SAll n j s a w → (∀ j' a' w', SAll n j' s' a' w' → Nx j s.H w j' s'.H w' → Q .normal a' w') → wpAny P .any ops Q fuel listed a w := by
  have hok' : ∀ i y, ops[i]? = some y → (∀ e ∈ y.after, Region.binds .any e = true → e.on < i) ∧ ∀ k, k < i → ∀ x, ops[k]? = some x → waitsT ops 6 y k = true ∨ pairOk ops x y = true ∨ condOk ops k i x y D C = true := by
    intro i y hy
    have hi : i < ops.size := by
      rcases Nat.lt_or_ge i ops.size with h | h
      · exact h
      · rw [Array.getElem?_eq_none h] at hy; simp at hy
    have := List.all_eq_true.1 hok i (by simpa using hi)
    rw [hy] at this
    simp only [Bool.and_eq_true] at this
    refine ⟨fun e he hb => ?_, fun k hk x hx => ?_⟩
    · have h1 := Array.all_eq_true.1 this.1
      obtain ⟨m, hm, rfl⟩ := Array.mem_iff_getElem.1 he
      have := h1 m hm
      simpa [hb] using this
    · have := List.all_eq_true.1 this.2 k (by simpa using hk)
      rw [hx] at this
      simp only [Bool.or_eq_true] at this
      rcases this with ((h | h) | h) | h
      · exact .inl (by simp only [waitsT, h, Bool.true_or])
      · exact .inr (.inl h)
      · exact .inl h
      · exact .inr (.inr h)
  have ready_nil : ∀ listed : Array Bool, listed.size = ops.size → Region.ready .any ops listed = [] → left ops.size listed = [] := by
    intro listed hs hr
    cases hl : left ops.size listed with
    | nil => rfl
    | cons i rest =>
      exfalso
      have hmem : i ∈ left ops.size listed := by rw [hl]; simp
      have hi := List.mem_filter.1 hmem
      have hlt : i < ops.size := by simpa using hi.1
      have hsmall : ∀ k, k < i → listed.getD k true = true := by
        intro k hk
        cases hk' : listed.getD k true with
        | true => rfl
        | false =>
          exfalso
          have hkm : k ∈ left ops.size listed := List.mem_filter.2 ⟨by simp; omega, by simp [hk']⟩
          have hsorted : (left ops.size listed).Pairwise (· < ·) := (List.pairwise_lt_range).filter _
          rw [hl] at hsorted hkm
          rcases List.mem_cons.1 hkm with rfl | h
          · omega
          · have := (List.pairwise_cons.1 hsorted).1 k h
            omega
      have : i ∈ Region.ready .any ops listed := by
        refine List.mem_filter.2 ⟨by simpa using hlt, ?_⟩
        rw [Array.getElem?_eq_getElem hlt]
        simp only [Option.map_some, Option.getD_some, Bool.and_eq_true]
        refine ⟨hi.2, Array.all_eq_true.2 (fun m hm => ?_)⟩
        cases hb : Region.binds .any (ops[i]).after[m] with
        | false => simp
        | true =>
          have h1 := (hok' i ops[i] (Array.getElem?_eq_getElem hlt)).1 _ (Array.getElem_mem hm) hb
          have h2 := hsmall _ h1
          have h3 : listed.getD ((ops[i]).after[m]).on false = true := by
            rw [Array.getD_eq_getD_getElem?, Array.getElem?_eq_getElem (by omega)] at h2 ⊢
            simpa using h2
          simp [h3]
      rw [hr] at this
      simp at this
  intro fuel
  induction fuel with
  | zero =>
    intro listed s j a w hs hcl hf hrun ha hq
    have hl : left ops.size listed = [] := by simpa using hf
    rw [hl] at hrun
    simp only [RunD] at hrun; subst hrun
    refine ⟨?_, hq j a w ha (Nx.refl _ _ _)⟩
    cases hr : Region.ready .any ops listed with
    | nil => rfl
    | cons i rest =>
      exfalso
      have hm : i ∈ Region.ready .any ops listed := by rw [hr]; simp
      have hm := List.mem_filter.1 hm
      simp only [Bool.and_eq_true] at hm
      have : i ∈ left ops.size listed := List.mem_filter.2 ⟨hm.1, hm.2.1⟩
      rw [hl] at this; simp at this
  | succ fuel ih =>
    intro listed s j a w hs hcl hf hrun ha hq
    refine ⟨fun hr => ?_, fun i hi => ?_⟩
    · rw [ready_nil listed hs hr] at hrun
      simp only [RunD] at hrun; subst hrun
      exact hq j a w ha (Nx.refl _ _ _)
    · have hm := List.mem_filter.1 hi
      simp only [Bool.and_eq_true] at hm
      have hlt : i < ops.size := by simpa using hm.1
      have hno : listed.getD i true = false := by simpa using hm.2.1
      have hy : ops[i]? = some ops[i] := Array.getElem?_eq_getElem hlt
      have hdir : ∀ e ∈ (ops[i]).after, Region.binds .any e = true → listed.getD e.on false = true := by
        intro e he hb
        have hall := hm.2.2
        rw [hy] at hall
        simp only [Option.map_some, Option.getD_some] at hall
        obtain ⟨m, hm', rfl⟩ := Array.mem_iff_getElem.1 he
        have := Array.all_eq_true.1 hall m hm'
        rw [hb] at this
        simpa only [Bool.not_true, Bool.false_or] using this
      have hset : ∀ m, listed.getD m false = true → (listed.setIfInBounds i true).getD m false = true := by
        intro m h
        by_cases hmi : m = i
        · subst hmi
          simp [Array.getD_eq_getD_getElem?, hs, hlt]
        · rw [Array.getD_eq_getD_getElem?] at h ⊢
          rw [Array.getElem?_setIfInBounds_ne (Ne.symm hmi)]
          exact h
      have hcl' : ClosedL ops (listed.setIfInBounds i true) := by
        intro m y hmy hlm e he hb
        by_cases hmi : m = i
        · subst hmi
          rw [hy] at hmy
          simp at hmy
          subst hmy
          exact hset _ (hdir e he hb)
        · refine hset _ (hcl m y hmy ?_ e he hb)
          rw [Array.getD_eq_getD_getElem?] at hlm ⊢
          rwa [Array.getElem?_setIfInBounds_ne (Ne.symm hmi)] at hlm
      obtain ⟨l1, l2, e1, e2, e3⟩ := left_split hs hlt hno
      rw [e1] at hrun
      have hsorted : (l1 ++ i :: l2).Pairwise (· < ·) := by rw [← e1]; exact (List.pairwise_lt_range).filter _
      have hnl : ∀ m ∈ l1 ++ i :: l2, m < ops.size ∧ listed.getD m true = false := fun m hm => by
        rw [← e1] at hm
        have := List.mem_filter.1 hm
        exact ⟨by simpa using this.1, by simpa using this.2⟩
      have hnw : ∀ m ∈ l1 ++ i :: l2, waitsT ops 6 ops[i] m = true → False := fun m hm hw => by
        obtain ⟨hm1, hm2⟩ := hnl m hm
        have := waitsT_listed hcl 6 _ hdir hw
        rw [Array.getD_eq_getD_getElem?, Array.getElem?_eq_getElem (by omega)] at this hm2
        simp at this hm2
        rw [this] at hm2; simp at hm2
      have hfront := runD_front2 hy l1 l2 s s' (frontOk_of (i := i) hside hsc l1 l2 hsorted (fun k hk x hx => ((hok' i _ hy).2 k (e3 k hk).1 x hx).resolve_left (fun hw => hnw k (by simp [hk]) hw)) (fun m hm hw => hnw m hm hw) (fun m hm => (hnl m hm).1)) hrun
      simp only [RunD] at hfront
      obtain ⟨y, s1, hy', hstep, hrest⟩ := hfront
      refine stepD_real hy' hstep ha (fun j' a' w' h1 h2 => ?_)
      refine ih (listed.setIfInBounds i true) s1 j' a' w' (by simpa using hs) hcl' ?_ (by rw [e2]; exact hrest) h1 (fun j'' a'' w'' g1 g2 => hq j'' a'' w'' g1 (h2.trans g2))
      rw [e2]
      rw [e1] at hf
      simp at hf ⊢
      omega

theorem SW.regionD2 {n : Nat} {id : Nat} {ops : Array Oper} {Q : Exit → St → Prop} {s : St} (hm : P.follows .mixedOrders = true) {D : List (Nat × Nat)} {C : List Nat} (hok : drawOk2 ops D C = true) (h : opsW P n true ops ops.toList s (fun s' => SideP D s' ∧ SideC P ops.toList C s' ∧ Q .normal s')) : SW P n (.region id ops true) Q s := by
  intro j a w ha
  obtain ⟨s', hrun, hside, hsc, hQ⟩ := runD_of_opsW ops.toList 0 (fun k => by simp) s h
  have hd : SAll n j s a w.drew := ⟨ha.rel.drew, ha.slots.nx ha.rel (Nx.drew j s.H w), ha.size, ha.defers⟩
  refine wp_region_any hm ?_
  have hleft : left ops.size (Array.replicate ops.size false) = List.range' 0 ops.toList.length := by
    unfold left
    rw [← List.range_eq_range']
    simp only [Array.length_toList]
    apply List.filter_eq_self.2
    intro k hk
    simp at hk
    simp [Array.getD_eq_getD_getElem?, hk]
  refine wpAny_of_run2 hok s' hside hsc ops.size _ s j a w.drew (by simp) (fun m y _ h => by simp [Array.getD_eq_getD_getElem?, Array.getElem?_replicate] at h; split at h <;> simp at h) (by rw [hleft]; simp) (by rw [hleft]; exact hrun) hd (fun j' a' w' h1 h2 => ⟨j', s', h1, (Nx.drew j s.H w).trans h2, hQ⟩)

def drawsOk2 (D : Nat → List (Nat × Nat) × List Nat) : Code → Bool
  | .region id ops draw => !draw || drawOk2 ops (D id).1 (D id).2
  | .seq a b => drawsOk2 D a && drawsOk2 D b
  | .cond _ a b => drawsOk2 D a && drawsOk2 D b
  | .block _ c => drawsOk2 D c
  | .loop c => drawsOk2 D c
  | _ => true
def vc2 (P : Program) (D : Nat → List (Nat × Nat) × List Nat) (n : Nat) : Code → (Exit → St → Prop) → St → Prop
  | .skip, Q, s => Q .normal s
  | .label _, Q, s => Q .normal s
  | .region id ops draw, Q, s => opsW P n draw ops ops.toList s (fun s' => SideP (D id).1 s' ∧ SideC P ops.toList (D id).2 s' ∧ Q .normal s')
  | .seq a b, Q, s => vc2 P D n a (seqQ (fun s' => vc2 P D n b Q s') Q) s
  | .cond c a b, Q, s => match sval s.σ c with
    | .val (.bool t) => (t = true → vc2 P D n a Q s) ∧ (t = false → vc2 P D n b Q s)
    | _ => False
  | .block id c, Q, s => vc2 P D n c (blockQ id Q) s
  | .loop c, Q, s => SW P n (.loop c) Q s
  | .exit id, Q, s => Q (.exit id) s
  | .ret, Q, s => Q .ret s
  | _, _, _ => False
theorem opsW_mono {n : Nat} {det : Bool} {ops : Array Oper} {K K' : St → Prop} (hk : ∀ s, K s → K' s) : ∀ (rest : List Oper) (s : St), opsW P n det ops rest s K → opsW P n det ops rest s K' := by
  have opm : ∀ (o : Oper) (s : St) (A A' : St → Prop), (∀ s', A s' → A' s') → opW P n det o s A → opW P n det o s A' := by
    rintro o s A A' ha ⟨hd, h⟩
    refine ⟨hd, ?_⟩
    split at h
    · split at h
      · exact h.mono (fun r H' hh => ha _ hh)
      · obtain ⟨r, h1, h2⟩ := h
        exact ⟨r, h1, ha _ h2⟩
    · split at h
      · exact ha _ h
      · exact h
  intro rest
  induction rest with
  | nil => exact fun s h => hk s h
  | cons o rest ih =>
    intro s h
    simp only [opsW] at h ⊢
    split at h
    · exact opm _ _ _ _ ih h
    · split at h
      · split at h
        · exact opm _ _ _ _ ih h
        · exact ⟨h.1, ih _ h.2⟩
        · exact h
      · exact h
theorem SW_of_vc2 (D : Nat → List (Nat × Nat) × List Nat) {n : Nat} (hm : P.follows .mixedOrders = true) : ∀ (c : Code) (Q : Exit → St → Prop) (s : St), drawsOk2 D c = true → vc2 P D n c Q s → SW P n c Q s
  | .skip, Q, s, _, h => SW.skip h
  | .label _, Q, s, _, h => SW.label h
  | .region id ops draw, Q, s, hd, h => by
    cases draw with
    | false => exact SW.region (opsW_mono (fun s h => h.2.2) _ _ h)
    | true => exact SW.regionD2 (D := (D id).1) (C := (D id).2) hm (by simpa [drawsOk2] using hd) h
  | .seq a b, Q, s, hd, h => by
    simp only [drawsOk2, Bool.and_eq_true] at hd
    refine SW.seq (SW.mono (SW_of_vc2 D hm a _ s hd.1 h) ?_)
    intro e s' he
    cases e with
    | normal => exact SW_of_vc2 D hm b Q s' hd.2 he
    | _ => exact he
  | .cond c a b, Q, s, hd, h => by
    simp only [drawsOk2, Bool.and_eq_true] at hd
    simp only [vc2] at h
    split at h
    · rename_i t ht
      exact SW.cond ht (fun e => SW_of_vc2 D hm a Q s hd.1 (h.1 e)) (fun e => SW_of_vc2 D hm b Q s hd.2 (h.2 e))
    · exact h.elim
  | .block id c, Q, s, hd, h => SW.block (SW_of_vc2 D hm c _ s (by simpa [drawsOk2] using hd) h)
  | .loop c, Q, s, _, h => h
  | .exit id, Q, s, _, h => SW.exit h
  | .ret, Q, s, _, h => SW.ret h
  | .rangeFunc _ _ _ _, _, _, _, h => h.elim
  | .scope _, _, _, _, h => h.elim
  | .goto _, _, _, _, h => h.elim
  | .refuse _, _, _, _, h => h.elim
section
variable (D : Nat → List (Nat × Nat) × List Nat)
theorem vc2_skip (n : Nat) (Q : Exit → St → Prop) (s : St) : vc2 P D n .skip Q s = Q .normal s := (rfl)
theorem vc2_label (n l : Nat) (Q : Exit → St → Prop) (s : St) : vc2 P D n (.label l) Q s = Q .normal s := (rfl)
class KD where
  d : Prop
  k : Prop
theorem vc2_region (n id : Nat) (l : List Oper) (draw : Bool) (Q : Exit → St → Prop) (s : St) : vc2 P D n (.region id l.toArray draw) Q s = opsW P n draw l.toArray l s (fun s' => @needW (SideP (D id).1 s') ⟨@needW (SideC P l (D id).2 s') ⟨Q .normal s'⟩⟩) := (rfl)
theorem vc2_seq (n : Nat) (a b : Code) (Q : Exit → St → Prop) (s : St) : vc2 P D n (.seq a b) Q s = vc2 P D n a (seqQ (fun s' => vc2 P D n b Q s') Q) s := (rfl)
theorem vc2_cond (n : Nat) (c : Operand) (a b : Code) (Q : Exit → St → Prop) (s : St) : vc2 P D n (.cond c a b) Q s = @condW (sval s.σ c) ⟨vc2 P D n a Q s, vc2 P D n b Q s⟩ := (rfl)
theorem vc2_block (n id : Nat) (c : Code) (Q : Exit → St → Prop) (s : St) : vc2 P D n (.block id c) Q s = vc2 P D n c (blockQ id Q) s := (rfl)
theorem vc2_loop (n : Nat) (c : Code) (Q : Exit → St → Prop) (s : St) : vc2 P D n (.loop c) Q s = @LoopW P n s ⟨c, Q⟩ := (rfl)
theorem vc2_exit (n id : Nat) (Q : Exit → St → Prop) (s : St) : vc2 P D n (.exit id) Q s = Q (.exit id) s := (rfl)
theorem vc2_ret (n : Nat) (Q : Exit → St → Prop) (s : St) : vc2 P D n .ret Q s = Q .ret s := (rfl)
end
def onD (r : Nat) (l : List (Nat × Nat)) (C : List Nat) : Nat → List (Nat × Nat) × List Nat := fun x => if x = r then (l, C) else ([], [])
theorem onD_at (r : Nat) (l : List (Nat × Nat)) (C : List Nat) (x : Nat) : onD r l C x = if x = r then (l, C) else ([], []) := (rfl)
theorem sideC_nil (ops : List Oper) (s : St) : SideC P ops [] s = True := (rfl)
theorem sideC_cons (ops : List Oper) (k : Nat) (C : List Nat) (s : St) : SideC P ops (k :: C) s = (callAny P (ops[k]?) s ∧ SideC P ops C s) := (rfl)
theorem callAny_at (d : Nat) (f : FuncId) (args : List Operand) (ats : Array TypeId) (ty : TypeId) (pos : String) (after : Array Edge) (gd : Option (Nat × Bool)) (s : St) : callAny P (some ⟨some d, .call ⟨.value (.func f), args.toArray, ats⟩, ty, pos, after, gd⟩) s = AnyC P f (args.map (sval s.σ)) (s.σ d) := (rfl)
theorem side_nil (s : St) : SideP [] s = True := (rfl)
theorem side_cons (p : Nat × Nat) (l : List (Nat × Nat)) (s : St) : SideP (p :: l) s = (apartV (s.σ p.1) (s.σ p.2) ∧ SideP l s) := (rfl)
theorem apartV_o {b b' o o' : Nat} (h : b ≠ b') : apartV (.optr b o) (.optr b' o') = True := eq_true h
theorem apartV_w {b b' o o' n c z : Nat} {e : Bool} (h : b ≠ b') : apartV (.optr b o) (.own b' o' n c z e) = True := eq_true h
theorem apartV_r (cs : List SV) (o : Nat) (x : SV) : apartV (.rptr cs o) x = True := (rfl)
attribute [go_sem ↓] vc2_skip vc2_label vc2_region vc2_seq vc2_cond vc2_block vc2_loop vc2_exit vc2_ret
attribute [go_sem] sideC_nil sideC_cons callAny_at onD_at side_nil side_cons apartV_o apartV_w apartV_r
end Go.Sh
