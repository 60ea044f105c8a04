/-
  For use: the walk's rules under one name, states by their slots, lists of numbers.
-/
import Derived.Test.YtehimkdkflnkbaaShJ
namespace Go.Sh
set_option linter.unusedSimpArgs false
set_option linter.unusedVariables false
open Go Go.RowKit
variable {P : Program}

/-- Slots written out. -/
def ofL : List (Nat × SV) → Slots
  | [], _ => .undef
  | (k, v) :: l, t => if t = k then v else ofL l t
theorem ofL_wk {σ : Slots} {l : List (Nat × SV)} (h : ∀ p ∈ l, σ p.1 = p.2) (t : Nat) : ofL l t = .undef ∨ ofL l t = σ t := by
  induction l with
  | nil => exact .inl rfl
  | cons p l ih =>
    obtain ⟨k, v⟩ := p
    show (if t = k then v else ofL l t) = .undef ∨ (if t = k then v else ofL l t) = σ t
    by_cases ht : t = k
    · subst ht
      rw [if_pos rfl]
      exact .inr (h (t, v) (by simp)).symm
    · rw [if_neg ht]
      exact ih (fun p hp => h p (by simp [hp]))
theorem Wk.of {s : St} {l : List (Nat × SV)} {H : Heap} (h : ∀ p ∈ l, s.σ p.1 = p.2) (hH : s.H = H) : Wk s ⟨ofL l, H⟩ :=
  ⟨ofL_wk h, by rw [hH]; exact Nat.le_refl _, fun b => .inr (by rw [hH])⟩

theorem upd_at (σ : Slots) (d : Nat) (s : SV) (t : Nat) : upd σ d s t = if t = d then s else σ t := (rfl)
theorem updO_some (σ : Slots) (d : Nat) (s : SV) : updO σ (some d) s = upd σ d s := (rfl)
theorem updO_none (σ : Slots) (s : SV) : updO σ none s = σ := (rfl)
theorem ofL_at (k : Nat) (v : SV) (l : List (Nat × SV)) (t : Nat) : ofL ((k, v) :: l) t = if t = k then v else ofL l t := (rfl)
theorem ofL_nil (t : Nat) : ofL [] t = .undef := (rfl)
theorem sval_tmp (σ : Slots) (t : Nat) : sval σ (.tmp t) = σ t := (rfl)
theorem sval_func (σ : Slots) (f : Nat) : sval σ (.func f) = .clos (.func f) [] [] := (rfl)
theorem sval_int (σ : Slots) (k : IntKind) (n : Int) : sval σ (.const (.int k n)) = .val (.int k n) := (rfl)
theorem sval_bool (σ : Slots) (b : Bool) : sval σ (.const (.bool b)) = .val (.bool b) := (rfl)
theorem sval_str (σ : Slots) (b : ByteArray) : sval σ (.const (.string b)) = .val (.string b) := (rfl)
theorem sval_slice (σ : Slots) (a : Option Addr) (n c : Nat) : sval σ (.const (.slice a n c)) = .val (.slice a n c) := (rfl)
theorem sval_agg (σ : Slots) (cs : Array Value) : sval σ (.const (.agg cs)) = .agg (cs.toList.map .val) := (rfl)
theorem sval_nilIface (σ : Slots) : sval σ (.const .nilIface) = .val .nilIface := (rfl)
theorem sval_nilFunc (σ : Slots) : sval σ (.const .nilFunc) = .val .nilFunc := (rfl)
theorem sval_pointer (σ : Slots) (a : Option Addr) : sval σ (.const (.pointer a)) = .val (.pointer a) := (rfl)
theorem dstOk_some (n d : Nat) : dstOk n (some d) = (d < n) := (rfl)
theorem dstOk_none (n : Nat) : dstOk n none = True := (rfl)
theorem seqQ_normal (K : St → Prop) (Q : Exit → St → Prop) (s : St) : seqQ K Q .normal s = K s := (rfl)
theorem seqQ_ret (K : St → Prop) (Q : Exit → St → Prop) (s : St) : seqQ K Q .ret s = Q .ret s := (rfl)
theorem seqQ_exit (K : St → Prop) (Q : Exit → St → Prop) (s : St) (i : Nat) : seqQ K Q (.exit i) s = Q (.exit i) s := (rfl)
theorem blockQ_normal (i : Nat) (Q : Exit → St → Prop) (s : St) : blockQ i Q .normal s = Q .normal s := (rfl)
theorem blockQ_ret (i : Nat) (Q : Exit → St → Prop) (s : St) : blockQ i Q .ret s = Q .ret s := (rfl)
theorem blockQ_exit (i k : Nat) (Q : Exit → St → Prop) (s : St) : blockQ i Q (.exit k) s = if k = i then Q .normal s else Q (.exit k) s := (rfl)
theorem retQ_ret (rs : List ResultVar) (R : SV → Heap → Prop) (s : St) : retQ P rs R .ret s = match sresults P s rs with | some r => R r s.H | none => False := (rfl)
theorem retQ_normal (rs : List ResultVar) (R : SV → Heap → Prop) (s : St) : retQ P rs R .normal s = match sresults P s rs with | some r => R r s.H | none => False := (rfl)

/-! ### The walk: what is looked at first, and what only then. What is to come is held as an instance: the walk does not look into it. -/
class KV where
  k : SV → Prop
class KS where
  k : SV → Heap → Prop
class KH where
  k : Heap → Prop
class KP where
  a : Prop
class KPP where
  a : Prop
  b : Prop
class KC where
  c : Code
  q : Exit → St → Prop
def needW (c : Prop) [K : KP] : Prop := c ∧ K.a
theorem needW_true (A : Prop) : @needW True ⟨A⟩ = A := by simp [needW]
def bindV (x : Option SV) [K : KV] : Prop := match x with | some r => K.k r | none => False
def bindS (x : Option (SV × Heap)) [K : KS] : Prop := match x with | some (r, H) => K.k r H | none => False
def bindH (x : Option Heap) [K : KH] : Prop := match x with | some H => K.k H | none => False
def guardW (x : Option SV) (want : Bool) [K : KPP] : Prop := match x with | some s => (match gd s want with | some true => K.a | some false => K.b | none => False) | none => False
def condW (x : SV) [K : KPP] : Prop := match x with | .val (.bool t) => (t = true → K.a) ∧ (t = false → K.b) | _ => False
def CallX (P : Program) (f : FuncId) (args : List SV) (H : Heap) [K : KS] : Prop := CallS P f args H K.k
def CallD (P : Program) (f : FuncId) (args : List SV) (H : Heap) [K : KS] : Prop := ∃ r, CallS P f args H (fun r' H' => r' = r ∧ H' = H) ∧ K.k r H
def callW (P : Program) (det : Bool) (x : SV) (args : List SV) (H : Heap) [K : KS] : Prop :=
  match x with
  | .clos (.func f) first captured => (match det with
    | false => CallS P f (first ++ args ++ captured) H K.k
    | true => ∃ r, CallS P f (first ++ args ++ captured) H (fun r' H' => r' = r ∧ H' = H) ∧ K.k r H)
  | _ => False
def LoopW (P : Program) (n : Nat) (s : St) [K : KC] : Prop := SW P n (.loop K.c) K.q s

theorem bindV_some (r : SV) (K : SV → Prop) : @bindV (some r) ⟨K⟩ = K r := (rfl)
theorem bindS_some (r : SV) (H : Heap) (K : SV → Heap → Prop) : @bindS (some (r, H)) ⟨K⟩ = K r H := (rfl)
theorem bindH_some (H : Heap) (K : Heap → Prop) : @bindH (some H) ⟨K⟩ = K H := (rfl)
theorem guardW_tt (A B : Prop) : @guardW (some (.val (.bool true))) true ⟨A, B⟩ = A := (rfl)
theorem guardW_tf (A B : Prop) : @guardW (some (.val (.bool true))) false ⟨A, B⟩ = B := (rfl)
theorem guardW_ft (A B : Prop) : @guardW (some (.val (.bool false))) true ⟨A, B⟩ = B := (rfl)
theorem guardW_ff (A B : Prop) : @guardW (some (.val (.bool false))) false ⟨A, B⟩ = A := (rfl)
theorem guardW_u (w : Bool) (A B : Prop) : @guardW (some (.tup [])) w ⟨A, B⟩ = B := (rfl)
theorem condW_t (A B : Prop) : @condW (.val (.bool true)) ⟨A, B⟩ = A := by simp [condW]
theorem condW_f (A B : Prop) : @condW (.val (.bool false)) ⟨A, B⟩ = B := by simp [condW]
theorem condW_of {b : Bool} {A B : Prop} (h1 : b = true → A) (h2 : b = false → B) : @condW (.val (.bool b)) ⟨A, B⟩ := ⟨h1, h2⟩
theorem callW_f (f : FuncId) (a c args : List SV) (H : Heap) (K : SV → Heap → Prop) : @callW P false (.clos (.func f) a c) args H ⟨K⟩ = @CallX P f (a ++ args ++ c) H ⟨K⟩ := (rfl)
theorem callW_t (f : FuncId) (a c args : List SV) (H : Heap) (K : SV → Heap → Prop) : @callW P true (.clos (.func f) a c) args H ⟨K⟩ = @CallD P f (a ++ args ++ c) H ⟨K⟩ := (rfl)

theorem vc_skip (n : Nat) (Q : Exit → St → Prop) (s : St) : vc P n .skip Q s = Q .normal s := (rfl)
theorem vc_label (n l : Nat) (Q : Exit → St → Prop) (s : St) : vc P n (.label l) Q s = Q .normal s := (rfl)
theorem vc_region (n id : Nat) (l : List Oper) (draw : Bool) (Q : Exit → St → Prop) (s : St) : vc P n (.region id l.toArray draw) Q s = opsW P n draw l.toArray l s (Q .normal) := (rfl)
theorem vc_seq (n : Nat) (a b : Code) (Q : Exit → St → Prop) (s : St) : vc P n (.seq a b) Q s = vc P n a (seqQ (fun s' => vc P n b Q s') Q) s := (rfl)
theorem vc_cond (n : Nat) (c : Operand) (a b : Code) (Q : Exit → St → Prop) (s : St) : vc P n (.cond c a b) Q s = @condW (sval s.σ c) ⟨vc P n a Q s, vc P n b Q s⟩ := (rfl)
theorem vc_block (n id : Nat) (c : Code) (Q : Exit → St → Prop) (s : St) : vc P n (.block id c) Q s = vc P n c (blockQ id Q) s := (rfl)
theorem vc_loop (n : Nat) (c : Code) (Q : Exit → St → Prop) (s : St) : vc P n (.loop c) Q s = @LoopW P n s ⟨c, Q⟩ := (rfl)
theorem LoopW.loop {n : Nat} {c : Code} {Q : Exit → St → Prop} {s : St} {ι : Type} (F : ι → St) (I : ι → Prop) (μ : ι → Nat) (x0 : ι) (h0 : I x0) (hs : Wk s (F x0))
    (round : ∀ x, I x → SW P n c (seqQ (fun s' => ∃ y, I y ∧ μ y < μ x ∧ Wk s' (F y)) Q) (F x)) : @LoopW P n s ⟨c, Q⟩ := SW.loop F I μ x0 h0 hs round
theorem vc_exit (n id : Nat) (Q : Exit → St → Prop) (s : St) : vc P n (.exit id) Q s = Q (.exit id) s := (rfl)
theorem vc_ret (n : Nat) (Q : Exit → St → Prop) (s : St) : vc P n .ret Q s = Q .ret s := (rfl)

section
variable (n : Nat) (det : Bool) (ops : Array Oper) (s : St) (K : St → Prop) (dst : Option Tmp) (ty : TypeId) (pos : String) (after : Array Edge) (gd : Option (Nat × Bool))
theorem opsW_nil : opsW P n det ops [] s K = K s := (rfl)
theorem opsW_cons (op : Op) (rest : List Oper) : opsW P n det ops (⟨dst, op, ty, pos, after, none⟩ :: rest) s K = opW P n det ⟨dst, op, ty, pos, after, none⟩ s (fun s' => opsW P n det ops rest s' K) := (rfl)
/-- The slot that a region's g-th operation writes. -/
def dstOf : List Oper → Nat → Option Nat
  | [], _ => none
  | o :: _, 0 => o.dst
  | _ :: l, g + 1 => dstOf l g
theorem dstOf_eq : ∀ (l : List Oper) (g : Nat), dstOf l g = (l[g]?).bind (·.dst)
  | [], g => by simp [dstOf]
  | o :: l, 0 => by simp [dstOf]
  | o :: l, g + 1 => by simp [dstOf, dstOf_eq l g]
theorem dstOf_zero (op : Op) (l : List Oper) : dstOf (⟨dst, op, ty, pos, after, gd⟩ :: l) 0 = dst := (rfl)
theorem dstOf_succ (o : Oper) (l : List Oper) (g : Nat) : dstOf (o :: l) (g + 1) = dstOf l g := (rfl)
def slotAt (σ : Slots) (d : Option Nat) : Option SV := match d with | some d => some (σ d) | none => none
theorem opsW_guard (l : List Oper) (op : Op) (rest : List Oper) (g : Nat) (want : Bool) : opsW P n det l.toArray (⟨dst, op, ty, pos, after, some (g, want)⟩ :: rest) s K =
    @guardW (slotAt s.σ (dstOf l g)) want ⟨opW P n det ⟨dst, op, ty, pos, after, none⟩ s (fun s' => opsW P n det l.toArray rest s' K), @needW (dstOk n dst) ⟨opsW P n det l.toArray rest ⟨updO s.σ dst (.tup []), s.H⟩ K⟩⟩ := by
  simp only [opsW, dstOf_eq, List.getElem?_toArray]
  cases hd : (l[g]?).bind (·.dst) with
  | none => rfl
  | some d =>
    show _ = @guardW (some (s.σ d)) want ⟨_, _⟩
    simp only []
    show _ = (match gd (s.σ d) want with | some true => _ | some false => _ | none => False)
    cases gd (s.σ d) want with
    | none => rfl
    | some b => cases b <;> rfl
theorem opW_move (x : Operand) : opW P n det ⟨dst, .move x, ty, pos, after, gd⟩ s K = @needW (dstOk n dst) ⟨K ⟨updO s.σ dst (sval s.σ x), s.H⟩⟩ := (rfl)
theorem opW_assign (x : Operand) : opW P n det ⟨dst, .assign x, ty, pos, after, gd⟩ s K = @needW (dstOk n dst) ⟨K ⟨updO s.σ dst (sval s.σ x), s.H⟩⟩ := (rfl)
def pickV (c a b : SV) : Option SV := match c with | .val (.bool t) => some (if t = true then a else b) | _ => none
theorem pickV_t (a b : SV) : pickV (.val (.bool true)) a b = some a := (rfl)
theorem pickV_f (a b : SV) : pickV (.val (.bool false)) a b = some b := (rfl)
theorem opW_pick (c x y : Operand) : opW P n det ⟨dst, .pick c x y, ty, pos, after, gd⟩ s K = @needW (dstOk n dst) ⟨@bindV (pickV (sval s.σ c) (sval s.σ x) (sval s.σ y)) ⟨fun r => K ⟨updO s.σ dst r, s.H⟩⟩⟩ := by
  simp only [opW, userCall, sop]
  cases sval s.σ c with
  | val v => cases v <;> rfl
  | _ => rfl
def ofV (H : Heap) (x : Option SV) : Option (SV × Heap) := match x with | some s => some (s, H) | none => none
theorem opW_alloc (t : TypeId) : opW P n det ⟨dst, .alloc t, ty, pos, after, gd⟩ s K = @needW (dstOk n dst) ⟨@bindS (salloc P s.H t) ⟨fun r H => K ⟨updO s.σ dst r, H⟩⟩⟩ := by
  simp only [opW, userCall, sop]
  cases salloc P s.H t <;> rfl
theorem opW_box (t : TypeId) (x : Operand) : opW P n det ⟨dst, .box t x, ty, pos, after, gd⟩ s K = @needW (dstOk n dst) ⟨@bindS (sbox s.H (sval s.σ x)) ⟨fun r H => K ⟨updO s.σ dst r, H⟩⟩⟩ := by
  simp only [opW, userCall, sop]
  cases sbox s.H (sval s.σ x) <;> rfl
theorem opW_build (t : TypeId) (ps : List (Nat × Operand)) : opW P n det ⟨dst, .build t ps.toArray, ty, pos, after, gd⟩ s K = @needW (dstOk n dst) ⟨@bindV (sbuild P t (sval s.σ) ps) ⟨fun r => K ⟨updO s.σ dst r, s.H⟩⟩⟩ := by
  simp only [opW, userCall, sop]
  cases sbuild P t (sval s.σ) ps <;> rfl
theorem opW_buildSlice (t : TypeId) (m : Nat) (ps : List (Nat × Operand)) : opW P n det ⟨dst, .buildSlice t m ps.toArray, ty, pos, after, gd⟩ s K = @needW (dstOk n dst) ⟨@bindS (sbuildSlice P s.H t m (sval s.σ) ps) ⟨fun r H => K ⟨updO s.σ dst r, H⟩⟩⟩ := by
  simp only [opW, userCall, sop]
  cases sbuildSlice P s.H t m (sval s.σ) ps <;> rfl
theorem opW_load (t : TypeId) (x : Operand) : opW P n det ⟨dst, .load t x, ty, pos, after, gd⟩ s K = @needW (dstOk n dst) ⟨@bindV (sload P s.H t (sval s.σ x)) ⟨fun r => K ⟨updO s.σ dst r, s.H⟩⟩⟩ := by
  simp only [opW, userCall, sop]
  cases sload P s.H t (sval s.σ x) <;> rfl
theorem opW_store (t : TypeId) (x y : Operand) : opW P n det ⟨dst, .store t x y, ty, pos, after, gd⟩ s K = @needW (dstOk n dst) ⟨@bindH (sstore P s.H t (sval s.σ x) (sval s.σ y)) ⟨fun H => K ⟨updO s.σ dst .undef, H⟩⟩⟩ := by
  simp only [opW, userCall, sop]
  cases sstore P s.H t (sval s.σ x) (sval s.σ y) <;> rfl
def nilV (x : SV) : Option SV := match x with
  | .optr b o => some (.optr b o)
  | .rptr cs o => some (.rptr cs o)
  | .clos (.func f) a c => some (.clos (.func f) a c)
  | _ => none
theorem opW_nilCheck (x : Operand) : opW P n det ⟨dst, .nilCheck x, ty, pos, after, gd⟩ s K = @needW (dstOk n dst) ⟨@bindV (nilV (sval s.σ x)) ⟨fun r => K ⟨updO s.σ dst r, s.H⟩⟩⟩ := by
  simp only [opW, userCall, sop]
  cases sval s.σ x with
  | clos fn a c => cases fn <;> rfl
  | _ => rfl
theorem opW_binOp (op : BinOp) (t t2 : TypeId) (x y : Operand) : opW P n det ⟨dst, .binOp op t x y t2, ty, pos, after, gd⟩ s K = @needW (dstOk n dst) ⟨@bindV (sbin P op t (sval s.σ x) (sval s.σ y)) ⟨fun r => K ⟨updO s.σ dst r, s.H⟩⟩⟩ := by
  simp only [opW, userCall, sop]
  cases sbin P op t (sval s.σ x) (sval s.σ y) <;> rfl
theorem opW_unOp (op : UnOp) (t : TypeId) (x : Operand) : opW P n det ⟨dst, .unOp op t x, ty, pos, after, gd⟩ s K = @needW (dstOk n dst) ⟨@bindV (sun op (sval s.σ x)) ⟨fun r => K ⟨updO s.σ dst r, s.H⟩⟩⟩ := by
  simp only [opW, userCall, sop]
  cases sun op (sval s.σ x) <;> rfl
theorem opW_convert (a b : TypeId) (x : Operand) : opW P n det ⟨dst, .convert a b x, ty, pos, after, gd⟩ s K = @needW (dstOk n dst) ⟨@bindV (sconv P a b (sval s.σ x)) ⟨fun r => K ⟨updO s.σ dst r, s.H⟩⟩⟩ := by
  simp only [opW, userCall, sop]
  cases sconv P a b (sval s.σ x) <;> rfl
def ifaceV (b : Option Bool) (t : TypeId) (x : SV) : Option SV := match b with | some false => some (.iface t x) | _ => none
theorem ifaceV_f (t : TypeId) (x : SV) : ifaceV (some false) t x = some (.iface t x) := (rfl)
theorem opW_makeInterface (t : TypeId) (x : Operand) : opW P n det ⟨dst, .makeInterface t x, ty, pos, after, gd⟩ s K = @needW (dstOk n dst) ⟨@bindV (ifaceV (isIface P t) t (sval s.σ x)) ⟨fun r => K ⟨updO s.σ dst r, s.H⟩⟩⟩ := by
  simp only [opW, userCall, sop, ifaceV]
  cases isIface P t with
  | none => rfl
  | some b => cases b <;> rfl
theorem opW_makeFunc (fn : Fn) (f c : List Operand) : opW P n det ⟨dst, .makeFunc fn f.toArray c.toArray, ty, pos, after, gd⟩ s K = @needW (dstOk n dst) ⟨K ⟨updO s.σ dst (.clos fn (f.map (sval s.σ)) (c.map (sval s.σ))), s.H⟩⟩ := (rfl)
theorem opW_makeSlice (t : TypeId) (l c : Operand) : opW P n det ⟨dst, .makeSlice t l c, ty, pos, after, gd⟩ s K = @needW (dstOk n dst) ⟨@bindS (smake P s.H t (sval s.σ l) (sval s.σ c)) ⟨fun r H => K ⟨updO s.σ dst r, H⟩⟩⟩ := by
  simp only [opW, userCall, sop]
  cases smake P s.H t (sval s.σ l) (sval s.σ c) <;> rfl
theorem opW_slice (t : TypeId) (x : Operand) (lo hi mx : Option Operand) : opW P n det ⟨dst, .slice t x lo hi mx, ty, pos, after, gd⟩ s K = @needW (dstOk n dst) ⟨@bindV (sslice P s.H t (sval s.σ x) (lo.map (sval s.σ)) (hi.map (sval s.σ)) (mx.map (sval s.σ))) ⟨fun r => K ⟨updO s.σ dst r, s.H⟩⟩⟩ := by
  simp only [opW, userCall, sop]
  cases sslice P s.H t (sval s.σ x) (lo.map (sval s.σ)) (hi.map (sval s.σ)) (mx.map (sval s.σ)) <;> rfl
theorem opW_fieldAddr (t : TypeId) (x : Operand) (f : Nat) : opW P n det ⟨dst, .fieldAddr t x f, ty, pos, after, gd⟩ s K = @needW (dstOk n dst) ⟨@bindV (sfieldAddr P t f (sval s.σ x)) ⟨fun r => K ⟨updO s.σ dst r, s.H⟩⟩⟩ := by
  simp only [opW, userCall, sop]
  cases sfieldAddr P t f (sval s.σ x) <;> rfl
theorem opW_field (t : TypeId) (x : Operand) (f : Nat) : opW P n det ⟨dst, .field t x f, ty, pos, after, gd⟩ s K = @needW (dstOk n dst) ⟨@bindV (sfield P t f (sval s.σ x)) ⟨fun r => K ⟨updO s.σ dst r, s.H⟩⟩⟩ := by
  simp only [opW, userCall, sop]
  cases sfield P t f (sval s.σ x) <;> rfl
theorem opW_indexAddr (t : TypeId) (x i : Operand) : opW P n det ⟨dst, .indexAddr t x i, ty, pos, after, gd⟩ s K = @needW (dstOk n dst) ⟨@bindV (sindexAddr P t (sval s.σ x) (sval s.σ i)) ⟨fun r => K ⟨updO s.σ dst r, s.H⟩⟩⟩ := by
  simp only [opW, userCall, sop]
  cases sindexAddr P t (sval s.σ x) (sval s.σ i) <;> rfl
theorem opW_index (t : TypeId) (x i : Operand) : opW P n det ⟨dst, .index t x i, ty, pos, after, gd⟩ s K = @needW (dstOk n dst) ⟨@bindV (sindex P t (sval s.σ x) (sval s.σ i)) ⟨fun r => K ⟨updO s.σ dst r, s.H⟩⟩⟩ := by
  simp only [opW, userCall, sop]
  cases sindex P t (sval s.σ x) (sval s.σ i) <;> rfl
def tupV (x : SV) (i : Nat) : Option SV := match x with | .tup vs => vs[i]? | _ => none
theorem tupV_0 (x : SV) (l : List SV) : tupV (.tup (x :: l)) 0 = some x := (rfl)
theorem tupV_1 (x y : SV) (l : List SV) : tupV (.tup (x :: y :: l)) 1 = some y := (rfl)
theorem tupV_2 (x y z : SV) (l : List SV) : tupV (.tup (x :: y :: z :: l)) 2 = some z := (rfl)
theorem opW_extract (x : Operand) (i : Nat) : opW P n det ⟨dst, .extract x i, ty, pos, after, gd⟩ s K = @needW (dstOk n dst) ⟨@bindV (tupV (sval s.σ x) i) ⟨fun r => K ⟨updO s.σ dst r, s.H⟩⟩⟩ := by
  simp only [opW, userCall, sop]
  cases sval s.σ x with
  | tup vs =>
    show (dstOk n dst ∧ (match (match vs[i]? with | some s1 => some (s1, s.H) | none => none) with | some (r, H') => K ⟨updO s.σ dst r, H'⟩ | none => False)) = (dstOk n dst ∧ @bindV (vs[i]?) ⟨fun r => K ⟨updO s.σ dst r, s.H⟩⟩)
    cases vs[i]? <;> rfl
  | _ => rfl
theorem opW_builtin (b : Builtin) (args : List Operand) (ats : List TypeId) : opW P n det ⟨dst, .call ⟨.builtin b, args.toArray, ats.toArray⟩, ty, pos, after, gd⟩ s K = @needW (dstOk n dst) ⟨@bindS (sbuiltin P s.H b ats (args.map (sval s.σ))) ⟨fun r H => K ⟨updO s.σ dst r, H⟩⟩⟩ := by
  simp only [opW, userCall, sop]
  cases sbuiltin P s.H b ats (args.map (sval s.σ)) <;> rfl
theorem opW_call (x : Operand) (args : List Operand) (ats : Array TypeId) : opW P n det ⟨dst, .call ⟨.value x, args.toArray, ats⟩, ty, pos, after, gd⟩ s K = @needW (dstOk n dst) ⟨@callW P det (sval s.σ x) (args.map (sval s.σ)) s.H ⟨fun r H => K ⟨updO s.σ dst r, H⟩⟩⟩ := by
  simp only [opW, userCall, wpCall]
  cases sval s.σ x with
  | clos fn a c => cases fn <;> cases det <;> (first | rfl | simp [callW, needW])
  | _ => cases det <;> (first | rfl | simp [callW, needW])
end

attribute [go_sem ↓] needW_true bindV_some bindS_some bindH_some guardW_tt guardW_tf guardW_ft guardW_ff guardW_u condW_t condW_f callW_f callW_t vc_skip vc_label vc_region vc_seq vc_cond vc_block vc_loop vc_exit vc_ret opsW_nil opsW_cons opsW_guard opW_move opW_assign opW_pick opW_alloc opW_box opW_build opW_buildSlice opW_load opW_store opW_nilCheck opW_binOp opW_unOp opW_convert opW_makeInterface opW_makeFunc opW_makeSlice opW_slice opW_fieldAddr opW_field opW_indexAddr opW_index opW_extract opW_builtin opW_call seqQ_normal seqQ_ret seqQ_exit blockQ_normal blockQ_ret blockQ_exit retQ_ret retQ_normal
attribute [go_sem ↓] dstOf_zero dstOf_succ
attribute [go_sem] slotAt.eq_def pickV_t pickV_f nilV.eq_def ifaceV_f tupV_0 tupV_1 tupV_2
attribute [go_sem] upd_at updO_some updO_none ofL_at ofL_nil sval_tmp sval_func sval_int sval_bool sval_str sval_slice sval_agg sval_nilIface sval_nilFunc sval_pointer dstOk_some dstOk_none sresults.eq_def sresults1 sresult.eq_def ofArgs sbuiltin.eq_def sbin.eq_def sint.eq_def sun.eq_def sshift.eq_def seqb.eq_def slen.eq_def sload.eq_def pick.eq_def sindexAddr.eq_def sfieldAddr.eq_def sfield.eq_def spart.eq_def sindex.eq_def smake.eq_def salloc.eq_def sbox.eq_def cellsOf.eq_def flat.eq_def sstore.eq_def splice sslice.eq_def bnd.eq_def natOf.eq_def sconv.eq_def isNilS.eq_def sfold1.eq_def sfold smax2.eq_def smin2.eq_def sbuild.eq_def sbuildSlice.eq_def sfill sappend.eq_def sview.eq_def ssrc.eq_def scopy.eq_def rep_one

/-! ### Tests that the context decides -/
theorem ibeq_t {a b : Int} (h : a = b) : (a == b) = true := by simp [h]
theorem ibeq_f {a b : Int} (h : a ≠ b) : (a == b) = false := by simp [h]
theorem ibne_t {a b : Int} (h : a ≠ b) : (a != b) = true := by simp [h]
theorem ibne_f {a b : Int} (h : a = b) : (a != b) = false := by simp [h]

/-! ### Numbers and lists of them -/
theorem wrap_id {x : Int} (h1 : -9223372036854775808 ≤ x) (h2 : x ≤ 9223372036854775807) : IntKind.i64.wrap x = x := by
  rw [IntKind.wrap_i64]; omega
def ints (L : List Int) : List SV := L.map fun x => .val (.int .i64 x)
/-- A slice of numbers, to read. -/
def ri (L : List Int) : SV := .row L.length false (ints L)
theorem ints_length (L : List Int) : (ints L).length = L.length := by simp [ints]
theorem ints_get {L : List Int} {k : Nat} (h : k < L.length) : (ints L)[k]? = some (.val (.int .i64 (L.getD k 0))) := by
  simp [ints, h]
theorem ints_set (L : List Int) (k : Nat) (x : Int) : (ints L).set k (.val (.int .i64 x)) = ints (L.set k x) := by
  simp [ints, List.map_set]
theorem ints_append (A B : List Int) : ints A ++ ints B = ints (A ++ B) := by simp [ints]
theorem ints_replicate (n : Nat) (x : Int) : List.replicate n (SV.val (.int .i64 x)) = ints (List.replicate n x) := by simp [ints]
theorem ints_nil : ints [] = [] := (rfl)
theorem ints_one (x : Int) : [SV.val (.int .i64 x)] = ints [x] := (rfl)
theorem ints_drop (L : List Int) (n : Nat) : (ints L).drop n = ints (L.drop n) := by simp [ints]
theorem ints_take (L : List Int) (n : Nat) : (ints L).take n = ints (L.take n) := by simp [ints]
theorem ints_take_self (L : List Int) : (ints L).take L.length = ints L := by rw [← ints_length L, List.take_length]
theorem ints_take_of {L : List Int} {n : Nat} (h : L.length = n) : (ints L).take n = ints L := by subst h; exact ints_take_self L
theorem ints_snoc (L : List Int) (x : Int) : ints L ++ [SV.val (.int .i64 x)] = ints (L ++ [x]) := by simp [ints]
theorem ints_flat (L : List Int) : (ints L).all flat = true := by
  simp [ints, flat, Value.oneCell']
theorem ri_eq (L : List Int) : ri L = .row L.length false (ints L) := (rfl)
theorem noRowL_ints : ∀ L : List Int, noRowL (ints L) = true
  | [] => rfl
  | x :: L => by
    have := noRowL_ints L
    simpa [ints, noRowL, noRow] using this
theorem viewL_ints (H : Heap) (f : Nat) : ∀ L : List Int, viewL H f (ints L) = some (ints L)
  | [] => by simp [ints, viewL]
  | x :: L => by
    have ih := viewL_ints H f L
    have e1 : ints (x :: L) = .val (.int .i64 x) :: ints L := (rfl)
    rw [e1]
    simp only [viewL, ih, view, viewV]

/-- A heap written out. -/
def hmap : List (Nat × Blk) → Nat → Option Blk
  | [], _ => none
  | (k, v) :: l, x => if x = k then some v else hmap l x
def hp (l : List (Nat × Blk)) (n : Nat) : Heap := ⟨hmap l, n⟩
def setB : List (Nat × Blk) → Nat → Blk → List (Nat × Blk)
  | [], b, x => [(b, x)]
  | (k, v) :: l, b, x => if k = b then (k, x) :: l else (k, v) :: setB l b x
theorem hp_nb (l : List (Nat × Blk)) (n : Nat) : (hp l n).nb = n := (rfl)
theorem hp_map (l : List (Nat × Blk)) (n x : Nat) : (hp l n).map x = hmap l x := (rfl)
theorem hp_push (l : List (Nat × Blk)) (n : Nat) (k : Blk) : (hp l n).push k = hp ((n, k) :: l) (n + 1) := (rfl)
theorem hmap_cons (k : Nat) (v : Blk) (l : List (Nat × Blk)) (x : Nat) : hmap ((k, v) :: l) x = if x = k then some v else hmap l x := (rfl)
theorem hmap_nil (x : Nat) : hmap [] x = none := (rfl)
theorem hp_set (l : List (Nat × Blk)) (n b : Nat) (k : Blk) : (hp l n).set b (some k) = hp (setB l b k) n := by
  have : (fun x => if x = b then some k else hmap l x) = hmap (setB l b k) := by
    funext x
    induction l with
    | nil => simp [setB, hmap]
    | cons p l ih =>
      obtain ⟨c, v⟩ := p
      simp only [setB, hmap]
      by_cases hc : c = b
      · subst hc
        rw [if_pos rfl]
        simp only [hmap]
        by_cases hx : x = c <;> simp [hx]
      · rw [if_neg hc]
        simp only [hmap, ← ih]
        by_cases hx : x = c
        · subst hx; simp [hc]
        · simp [hx]
  show Heap.mk _ _ = Heap.mk _ _
  simp only [hp, Heap.mk.injEq, and_true]
  exact this
def delB : List (Nat × Blk) → Nat → List (Nat × Blk)
  | [], _ => []
  | (k, v) :: l, b => if k = b then delB l b else (k, v) :: delB l b
theorem hp_del (l : List (Nat × Blk)) (n b : Nat) : (hp l n).set b none = hp (delB l b) n := by
  have : (fun x => if x = b then none else hmap l x) = hmap (delB l b) := by
    funext x
    induction l with
    | nil => simp [delB, hmap]
    | cons p l ih =>
      obtain ⟨c, v⟩ := p
      by_cases hc : c = b
      · subst hc
        simp only [delB, if_pos, hmap, ← ih]
        by_cases hx : x = c <;> simp [hx]
      · simp only [delB, if_neg hc, hmap, ← ih]
        by_cases hx : x = c
        · subst hx; simp [hc]
        · simp [hx]
  show Heap.mk _ _ = Heap.mk _ _
  simp only [hp, Heap.mk.injEq, and_true]
  exact this
theorem empty_hp : Heap.empty = hp [] 0 := by
  simp only [Heap.empty, hp, Heap.mk.injEq, and_true]
  funext x; rfl
theorem Wk.ofH {s : St} {l : List (Nat × SV)} {lb : List (Nat × Blk)} {n : Nat} (h : ∀ p ∈ l, s.σ p.1 = p.2) (hm : ∀ q ∈ lb, s.H.map q.1 = some q.2) (hn : s.H.nb ≤ n) : Wk s ⟨ofL l, hp lb n⟩ := by
  refine ⟨ofL_wk h, hn, fun b => ?_⟩
  show hmap lb b = none ∨ hmap lb b = s.H.map b
  clear h hn
  induction lb with
  | nil => exact .inl rfl
  | cons q lb ih =>
    obtain ⟨k, v⟩ := q
    rw [hmap_cons]
    by_cases hb : b = k
    · subst hb
      rw [if_pos rfl]
      exact .inr (hm (b, v) (by simp)).symm
    · rw [if_neg hb]
      exact ih (fun q hq => hm q (by simp [hq]))
attribute [go_sem] hp_nb hp_map hp_push hmap_cons hmap_nil hp_set hp_del setB delB empty_hp

/-- One block, under the name 0. -/
def Heap.one (blk : Blk) : Heap := ⟨fun x => if x = 0 then some blk else none, 1⟩
/-- The result is a slice of these numbers, in memory of its own. -/
def IntRes (L : List Int) (r : SV) (H : Heap) : Prop := ∃ b off cap ex blk, r = .own b off L.length cap 1 ex ∧ H.map b = some blk ∧ (blk.cells.drop off).take L.length = ints L ∧ off + L.length ≤ blk.cells.length

theorem IntRes.view {L : List Int} {r : SV} {H : Heap} (h : IntRes L r H) : view H 2 r = some (ri L) := by
  obtain ⟨b, off, cap, ex, blk, rfl, h1, h2, h3⟩ := h
  simp only [Sh.view, h1, Nat.mul_one, h3, if_true, h2, viewL_ints, ri]

/-- At a body's end: a scalar. -/
theorem Fin.val {R : SV → Heap → Prop} {v : Value} {H : Heap} (h : R (.val v) ⟨fun _ => none, H.nb⟩) : Fin R (.val v) H :=
  ⟨⟨fun _ => none, H.nb⟩, ⟨rfl, fun _ => .inl rfl⟩, rfl, fun b blk hb => by simp at hb, h⟩
/-- At a body's end: a slice over one block. -/
theorem Fin.own {R : SV → Heap → Prop} {b off n cap sz : Nat} {ex : Bool} {blk : Blk} {H : Heap} (hb : H.map b = some blk) (hn : noRowL blk.cells = true)
    (h : R (.own b off n cap sz ex) ⟨fun x => if x = b then some blk else none, H.nb⟩) : Fin R (.own b off n cap sz ex) H := by
  refine ⟨⟨fun x => if x = b then some blk else none, H.nb⟩, ⟨rfl, fun x => ?_⟩, rfl, fun x k hx => ?_, h⟩
  · by_cases hx : x = b
    · subst hx; right; simp [hb]
    · left; simp [hx]
  · by_cases hxb : x = b
    · subst hxb; simp at hx; subst hx; exact hn
    · simp [hxb] at hx
theorem IntRes.fin {L : List Int} {b off cap : Nat} {ex : Bool} {blk : Blk} {H : Heap} (hb : H.map b = some blk) (hn : noRowL blk.cells = true) (h1 : (blk.cells.drop off).take L.length = ints L) (h2 : off + L.length ≤ blk.cells.length) :
    Fin (IntRes L) (.own b off L.length cap 1 ex) H :=
  Fin.own hb hn ⟨b, off, cap, ex, blk, rfl, by simp, h1, h2⟩
end Go.Sh
