/-
  Regions that draw their order, where a load and a store may change places because they lie in different blocks.
-/
import Derived.Test.YtehimkdkflnkbaaShL
namespace Go.Sh
set_option linter.unusedSimpArgs false
set_option linter.unusedVariables false
open Go Go.RowKit
variable {P : Program}

def ldSlot : Op → Option Nat
  | .load _ (.tmp t) => some t
  | _ => none
def stSlot : Op → Option Nat
  | .store _ (.tmp t) _ => some t
  | _ => none
def apartV : SV → SV → Prop
  | .optr b _, .optr b' _ => b ≠ b'
  | .optr b _, .own b' _ _ _ _ _ => b ≠ b'
  | .rptr _ _, _ => True
  | _, _ => False
def SideP : List (Nat × Nat) → St → Prop
  | [], _ => True
  | p :: l, s => apartV (s.σ p.1) (s.σ p.2) ∧ SideP l s
theorem SideP.get : ∀ {D : List (Nat × Nat)} {s : St} {p : Nat × Nat}, SideP D s → p ∈ D → apartV (s.σ p.1) (s.σ p.2)
  | [], s, p, _, h => by simp at h
  | q :: l, s, p, hs, h => by
    rcases List.mem_cons.1 h with rfl | h
    · exact hs.1
    · exact SideP.get hs.2 h
def callOf : Op → Option (FuncId × List Operand)
  | .call ⟨.value (.func f), args, _⟩ => some (f, args.toList)
  | _ => none
/-- A call that gives r, whatever the heap. -/
def AnyC (P : Program) (f : FuncId) (args : List SV) (r : SV) : Prop := ∀ H, CallS P f args H (fun r' H' => r' = r ∧ H' = H)
def callAny (P : Program) (o : Option Oper) (s : St) : Prop := match o with
  | some o => (match callOf o.op, o.dst with | some (f, args), some d => AnyC P f (args.map (sval s.σ)) (s.σ d) | _, _ => False)
  | none => False
def SideC (P : Program) (ops : List Oper) : List Nat → St → Prop
  | [], _ => True
  | k :: C, s => callAny P (ops[k]?) s ∧ SideC P ops C s
theorem SideC.get {ops : List Oper} : ∀ {C : List Nat} {s : St} {k : Nat}, SideC P ops C s → k ∈ C → callAny P (ops[k]?) s
  | [], s, p, _, h => by simp at h
  | q :: l, s, p, hs, h => by
    rcases List.mem_cons.1 h with rfl | h
    · exact hs.1
    · exact SideC.get hs.2 h
def isBS : Op → Bool
  | .buildSlice _ _ _ => true
  | _ => false
def condOk (ops : Array Oper) (k i : Nat) (x y : Oper) (D : List (Nat × Nat)) (C : List Nat) : Bool :=
  (x.apart ops y && (match x.dst, callOf x.op with
    | some dx, some (_, args) => C.contains k && (List.range ops.size).all fun m => match ops[m]? with
        | some o => (decide (m < k) || args.all fun a => match a with | .tmp t => o.dst != some t | _ => true) && (decide (m = k) || o.dst != some dx)
        | none => true
    | _, _ => false)) ||
  x.apart ops y && (match ldSlot x.op with
    | some tx => ((List.range ops.size).all fun m => match ops[m]? with
        | some o => decide (m < k) || o.dst != some tx
        | none => true) &&
      ((match stSlot y.op with
        | some ty => D.contains (tx, ty) && (List.range ops.size).all fun m => match ops[m]? with
          | some o => o.dst != some ty || waitsT ops 6 y m
          | none => true
        | none => false) || D.contains (tx, tx) ||
      (match y.dst with
        | some td => isBS y.op && D.contains (tx, td) && (List.range ops.size).all fun m => match ops[m]? with
          | some o => decide (m = i) || o.dst != some td
          | none => true
        | none => false))
    | none => false)
def drawOk2 (ops : Array Oper) (D : List (Nat × Nat)) (C : List Nat) : Bool :=
  (List.range ops.size).all fun i => match ops[i]? with
    | some y => (y.after.all fun e => !Region.binds .any e || decide (e.on < i)) && (List.range i).all fun k => match ops[k]? with
      | some x => waits y k || pairOk ops x y || waitsT ops 6 y k || condOk ops k i x y D C
      | none => true
    | none => true

theorem StepD.swapK {n : Nat} {ops : Array Oper} {x y : Oper} {s s1 s2 : St} (hap : x.apart ops y = true)
    (hk : ∀ rx ry H1 H2, OpD P x.op (sval s.σ) s.H rx H1 → OpD P y.op (sval s.σ) H1 ry H2 → ∃ H', OpD P y.op (sval s.σ) s.H ry H' ∧ OpD P x.op (sval s.σ) H' rx H2) (h1 : StepD P n ops x s s1) (h2 : StepD P n ops y s1 s2) :
    ∃ s1', StepD P n ops y s s1' ∧ StepD P n ops x s1' s2 := by
  obtain ⟨a1, a2, a3⟩ := Oper.apart_spec hap
  obtain ⟨d1, h1⟩ := h1
  obtain ⟨d2, h2⟩ := h2
  have gy : ∀ r, gst ops y (updO s.σ x.dst r) = gst ops y s.σ := fun r => apart_gst a1
  have gx : ∀ r, gst ops x (updO s.σ y.dst r) = gst ops x s.σ := fun r => apart_gst a3
  have oy : ∀ r z, z ∈ y.op.operands → sval (updO s.σ x.dst r) z = sval s.σ z := fun r z hz => sval_updO (fun t ht => apart_op (a1 t ht) hz)
  have ox : ∀ r z, z ∈ x.op.operands → sval (updO s.σ y.dst r) z = sval s.σ z := fun r z hz => sval_updO (fun t ht => apart_op (a3 t ht) hz)
  obtain ⟨σ1, H1⟩ := s1
  obtain ⟨σ2, H2⟩ := s2
  rcases h1 with ⟨g1, rx, o1, e1⟩ | ⟨g1, eH1, e1⟩ <;> rcases h2 with ⟨g2, ry, o2, e2⟩ | ⟨g2, eH2, e2⟩ <;> simp only at * <;> subst e1 <;> subst e2
  · rw [gy] at g2
    have o2' : OpD P y.op (sval s.σ) H1 ry H2 := OpD.congr (oy rx) o2
    obtain ⟨H', k1, k2⟩ := hk rx ry H1 H2 o1 o2'
    exact ⟨⟨updO s.σ y.dst ry, H'⟩, ⟨d2, .inl ⟨g2, ry, k1, rfl⟩⟩, ⟨d1, .inl ⟨by rw [gx]; exact g1, rx, OpD.congr (fun z hz => (ox ry z hz).symm) k2, updO_comm a2⟩⟩⟩
  · rw [gy] at g2
    subst eH2
    exact ⟨⟨updO s.σ y.dst (.tup []), s.H⟩, ⟨d2, .inr ⟨g2, rfl, rfl⟩⟩, ⟨d1, .inl ⟨by rw [gx]; exact g1, rx, OpD.congr (fun z hz => (ox (.tup []) z hz).symm) o1, updO_comm a2⟩⟩⟩
  · rw [gy] at g2
    subst eH1
    exact ⟨⟨updO s.σ y.dst ry, H2⟩, ⟨d2, .inl ⟨g2, ry, OpD.congr (oy (.tup [])) o2, rfl⟩⟩, ⟨d1, .inr ⟨by rw [gx]; exact g1, rfl, updO_comm a2⟩⟩⟩
  · rw [gy] at g2
    subst eH1 eH2
    exact ⟨⟨updO s.σ y.dst (.tup []), s.H⟩, ⟨d2, .inr ⟨g2, rfl, rfl⟩⟩, ⟨d1, .inr ⟨by rw [gx]; exact g1, rfl, updO_comm a2⟩⟩⟩

theorem StepD.swapN {n : Nat} {ops : Array Oper} {x y : Oper} {s s1 s2 : St} (hap : x.apart ops y = true) (h1 : StepD P n ops x s s1) (h2 : StepD P n ops y s1 s2) (hg : gst ops y s1.σ = some false) :
    ∃ s1', StepD P n ops y s s1' ∧ StepD P n ops x s1' s2 := by
  obtain ⟨a1, a2, a3⟩ := Oper.apart_spec hap
  obtain ⟨d1, h1⟩ := h1
  obtain ⟨d2, h2⟩ := h2
  have gy : ∀ r, gst ops y (updO s.σ x.dst r) = gst ops y s.σ := fun r => apart_gst a1
  have gx : ∀ r, gst ops x (updO s.σ y.dst r) = gst ops x s.σ := fun r => apart_gst a3
  have ox : ∀ r z, z ∈ x.op.operands → sval (updO s.σ y.dst r) z = sval s.σ z := fun r z hz => sval_updO (fun t ht => apart_op (a3 t ht) hz)
  obtain ⟨σ1, H1⟩ := s1
  obtain ⟨σ2, H2⟩ := s2
  rcases h2 with ⟨g2, ry, o2, e2⟩ | ⟨g2, eH2, e2⟩
  · rw [g2] at hg; simp at hg
  · rcases h1 with ⟨g1, rx, o1, e1⟩ | ⟨g1, eH1, e1⟩ <;> simp only at * <;> subst e1 <;> subst e2
    · rw [gy] at g2
      subst eH2
      exact ⟨⟨updO s.σ y.dst (.tup []), s.H⟩, ⟨d2, .inr ⟨g2, rfl, rfl⟩⟩, ⟨d1, .inl ⟨by rw [gx]; exact g1, rx, OpD.congr (fun z hz => (ox (.tup []) z hz).symm) o1, updO_comm a2⟩⟩⟩
    · rw [gy] at g2
      subst eH1 eH2
      exact ⟨⟨updO s.σ y.dst (.tup []), s.H⟩, ⟨d2, .inr ⟨g2, rfl, rfl⟩⟩, ⟨d1, .inr ⟨by rw [gx]; exact g1, rfl, updO_comm a2⟩⟩⟩
theorem StepD.swapK2 {n : Nat} {ops : Array Oper} {x y : Oper} {s s1 s2 : St} {r : SV} {td : Nat} (hap : x.apart ops y = true) (hd : y.dst = some td) (hr : s2.σ td = r)
    (hk : ∀ rx H1 H2, OpD P x.op (sval s.σ) s.H rx H1 → OpD P y.op (sval s.σ) H1 r H2 → ∃ H', OpD P y.op (sval s.σ) s.H r H' ∧ OpD P x.op (sval s.σ) H' rx H2) (h1 : StepD P n ops x s s1) (h2 : StepD P n ops y s1 s2) (hg : gst ops y s1.σ = some true) :
    ∃ s1', StepD P n ops y s s1' ∧ StepD P n ops x s1' s2 := by
  obtain ⟨a1, a2, a3⟩ := Oper.apart_spec hap
  obtain ⟨d1, h1⟩ := h1
  obtain ⟨d2, h2⟩ := h2
  have gy : ∀ r, gst ops y (updO s.σ x.dst r) = gst ops y s.σ := fun r => apart_gst a1
  have gx : ∀ r, gst ops x (updO s.σ y.dst r) = gst ops x s.σ := fun r => apart_gst a3
  have oy : ∀ r z, z ∈ y.op.operands → sval (updO s.σ x.dst r) z = sval s.σ z := fun r z hz => sval_updO (fun t ht => apart_op (a1 t ht) hz)
  have ox : ∀ r z, z ∈ x.op.operands → sval (updO s.σ y.dst r) z = sval s.σ z := fun r z hz => sval_updO (fun t ht => apart_op (a3 t ht) hz)
  obtain ⟨σ1, H1⟩ := s1
  obtain ⟨σ2, H2⟩ := s2
  rcases h2 with ⟨g2, ry, o2, e2⟩ | ⟨g2, eH2, e2⟩
  · have hry : ry = r := by rw [← hr]; simp only at e2; rw [e2, hd]; simp [updO, upd]
    subst hry
    rcases h1 with ⟨g1, rx, o1, e1⟩ | ⟨g1, eH1, e1⟩ <;> simp only at * <;> subst e1 <;> subst e2
    · rw [gy] at g2
      have o2' : OpD P y.op (sval s.σ) H1 ry H2 := OpD.congr (oy rx) o2
      obtain ⟨H', k1, k2⟩ := hk rx H1 H2 o1 o2'
      exact ⟨⟨updO s.σ y.dst ry, H'⟩, ⟨d2, .inl ⟨g2, ry, k1, rfl⟩⟩, ⟨d1, .inl ⟨by rw [gx]; exact g1, rx, OpD.congr (fun z hz => (ox ry z hz).symm) k2, updO_comm a2⟩⟩⟩
    · rw [gy] at g2
      subst eH1
      exact ⟨⟨updO s.σ y.dst ry, H2⟩, ⟨d2, .inl ⟨g2, ry, OpD.congr (oy (.tup [])) o2, rfl⟩⟩, ⟨d1, .inr ⟨by rw [gx]; exact g1, rfl, updO_comm a2⟩⟩⟩
  · rw [g2] at hg; simp at hg

theorem OpD.ldst {ox oy : Op} {tx ty : Nat} {σ : Slots} (hx : ldSlot ox = some tx) (hy : stSlot oy = some ty) (ha : apartV (σ tx) (σ ty)) {H H1 H2 : Heap} {rx ry : SV} (h1 : OpD P ox (sval σ) H rx H1) (h2 : OpD P oy (sval σ) H1 ry H2) :
    ∃ H', OpD P oy (sval σ) H ry H' ∧ OpD P ox (sval σ) H' rx H2 := by
  cases ox with
  | load t a =>
    cases a with
    | tmp t1 =>
      simp only [ldSlot, Option.some.injEq] at hx; subst hx
      cases oy with
      | store t2 b v =>
        cases b with
        | tmp t3 =>
          simp only [stSlot, Option.some.injEq] at hy; subst hy
          simp only [OpD, userCall, sop, sval_tmp] at h1 h2 ⊢
          cases hl : sload P H t (σ t1) with
          | none => rw [hl] at h1; simp at h1
          | some r =>
            rw [hl] at h1
            simp at h1
            obtain ⟨rfl, rfl⟩ := h1
            refine ⟨H2, h2, ?_⟩
            cases hs : sstore P H t2 (σ t3) (sval σ v) with
            | none => rw [hs] at h2; simp at h2
            | some H3 =>
              rw [hs] at h2
              simp at h2
              obtain ⟨_, rfl⟩ := h2
              have : sload P H3 t (σ t1) = some r := by
                rw [← hl]
                cases hx : σ t1 with
                | rptr cs off => rfl
                | optr b off =>
                  rw [hx] at ha
                  cases hy : σ t3 with
                  | optr b' off' =>
                    rw [hy] at ha hs
                    simp only [apartV] at ha
                    simp only [sstore] at hs
                    split at hs
                    · split at hs
                      · simp at hs
                        subst hs
                        simp only [sload, Heap.set]
                        rw [if_neg ha]
                      · simp at hs
                    · simp at hs
                  | own _ _ _ _ _ _ => rw [hy] at hs; simp [sstore] at hs
                  | _ => rw [hy] at ha; simp [apartV] at ha
                | _ => rw [hx] at ha; simp [apartV] at ha
              rw [this]
        | _ => simp [stSlot] at hy
      | _ => simp [stSlot] at hy
    | _ => simp [ldSlot] at hx
  | _ => simp [ldSlot] at hx

theorem OpD.ldr {ox oy : Op} {tx : Nat} {σ : Slots} (hx : ldSlot ox = some tx) (ha : apartV (σ tx) (σ tx)) {H H1 H2 : Heap} {rx ry : SV} (h1 : OpD P ox (sval σ) H rx H1) (h2 : OpD P oy (sval σ) H1 ry H2) :
    ∃ H', OpD P oy (sval σ) H ry H' ∧ OpD P ox (sval σ) H' rx H2 := by
  cases ox with
  | load t a =>
    cases a with
    | tmp t1 =>
      simp only [ldSlot, Option.some.injEq] at hx; subst hx
      simp only [OpD, userCall, sop, sval_tmp] at h1 ⊢
      cases hl : sload P H t (σ t1) with
      | none => rw [hl] at h1; simp at h1
      | some r =>
        rw [hl] at h1
        simp at h1
        obtain ⟨rfl, rfl⟩ := h1
        refine ⟨H2, h2, ?_⟩
        have : sload P H2 t (σ t1) = some r := by
          rw [← hl]
          cases hx : σ t1 with
          | rptr cs off => rfl
          | optr b off => rw [hx] at ha; simp [apartV] at ha
          | _ => rw [hx] at ha; simp [apartV] at ha
        rw [this]
    | _ => simp [ldSlot] at hx
  | _ => simp [ldSlot] at hx
theorem OpD.ldbs {ox oy : Op} {tx : Nat} {σ : Slots} (hx : ldSlot ox = some tx) (hy : isBS oy = true) {H H1 H2 : Heap} {rx ry : SV} (ha : apartV (σ tx) ry) (h1 : OpD P ox (sval σ) H rx H1) (h2 : OpD P oy (sval σ) H1 ry H2) :
    ∃ H', OpD P oy (sval σ) H ry H' ∧ OpD P ox (sval σ) H' rx H2 := by
  cases ox with
  | load t a =>
    cases a with
    | tmp t1 =>
      simp only [ldSlot, Option.some.injEq] at hx; subst hx
      cases oy with
      | buildSlice t2 m ps =>
        simp only [OpD, userCall, sop, sval_tmp] at h1 h2 ⊢
        cases hl : sload P H t (σ t1) with
        | none => rw [hl] at h1; simp at h1
        | some r =>
          rw [hl] at h1
          simp at h1
          obtain ⟨rfl, rfl⟩ := h1
          refine ⟨H2, h2, ?_⟩
          have : sload P H2 t (σ t1) = some r := by
            rw [← hl]
            cases hx : σ t1 with
            | rptr cs off => rfl
            | optr b off =>
              rw [hx] at ha
              unfold sbuildSlice at h2
              (repeat' split at h2) <;> simp_all
              all_goals
                obtain ⟨rfl, rfl⟩ := h2
                simp only [apartV] at ha
                simp only [sload, Heap.push]
                rw [if_neg ha]
                simpa only [sload] using hl
            | _ => rw [hx] at ha; simp [apartV] at ha
          rw [this]
      | _ => simp [isBS] at hy
    | _ => simp [ldSlot] at hx
  | _ => simp [ldSlot] at hx

theorem StepD.swapC {n : Nat} {ops : Array Oper} {x y : Oper} {s s1 s2 : St} {r : SV} {d : Nat} (hap : x.apart ops y = true) (hd : x.dst = some d) (hr : s1.σ d = r)
    (hk : ∀ ry H1 H2, OpD P x.op (sval s.σ) s.H r H1 → OpD P y.op (sval s.σ) H1 ry H2 → ∃ H', OpD P y.op (sval s.σ) s.H ry H' ∧ OpD P x.op (sval s.σ) H' r H2) (h1 : StepD P n ops x s s1) (h2 : StepD P n ops y s1 s2) :
    ∃ s1', StepD P n ops y s s1' ∧ StepD P n ops x s1' s2 := by
  obtain ⟨a1, a2, a3⟩ := Oper.apart_spec hap
  obtain ⟨d1, h1⟩ := h1
  obtain ⟨d2, h2⟩ := h2
  have gy : ∀ r, gst ops y (updO s.σ x.dst r) = gst ops y s.σ := fun r => apart_gst a1
  have gx : ∀ r, gst ops x (updO s.σ y.dst r) = gst ops x s.σ := fun r => apart_gst a3
  have oy : ∀ r z, z ∈ y.op.operands → sval (updO s.σ x.dst r) z = sval s.σ z := fun r z hz => sval_updO (fun t ht => apart_op (a1 t ht) hz)
  have ox : ∀ r z, z ∈ x.op.operands → sval (updO s.σ y.dst r) z = sval s.σ z := fun r z hz => sval_updO (fun t ht => apart_op (a3 t ht) hz)
  obtain ⟨σ1, H1⟩ := s1
  obtain ⟨σ2, H2⟩ := s2
  rcases h1 with ⟨g1, rx, o1, e1⟩ | ⟨g1, eH1, e1⟩
  · have hrx : rx = r := by rw [← hr]; simp only at e1; rw [e1, hd]; simp [updO, upd]
    subst hrx
    rcases h2 with ⟨g2, ry, o2, e2⟩ | ⟨g2, eH2, e2⟩ <;> simp only at * <;> subst e1 <;> subst e2
    · rw [gy] at g2
      have o2' : OpD P y.op (sval s.σ) H1 ry H2 := OpD.congr (oy rx) o2
      obtain ⟨H', k1, k2⟩ := hk ry H1 H2 o1 o2'
      exact ⟨⟨updO s.σ y.dst ry, H'⟩, ⟨d2, .inl ⟨g2, ry, k1, rfl⟩⟩, ⟨d1, .inl ⟨by rw [gx]; exact g1, rx, OpD.congr (fun z hz => (ox ry z hz).symm) k2, updO_comm a2⟩⟩⟩
    · rw [gy] at g2
      subst eH2
      exact ⟨⟨updO s.σ y.dst (.tup []), s.H⟩, ⟨d2, .inr ⟨g2, rfl, rfl⟩⟩, ⟨d1, .inl ⟨by rw [gx]; exact g1, rx, OpD.congr (fun z hz => (ox (.tup []) z hz).symm) o1, updO_comm a2⟩⟩⟩
  · rcases h2 with ⟨g2, ry, o2, e2⟩ | ⟨g2, eH2, e2⟩ <;> simp only at * <;> subst e1 <;> subst e2
    · rw [gy] at g2
      subst eH1
      exact ⟨⟨updO s.σ y.dst ry, H2⟩, ⟨d2, .inl ⟨g2, ry, OpD.congr (oy (.tup [])) o2, rfl⟩⟩, ⟨d1, .inr ⟨by rw [gx]; exact g1, rfl, updO_comm a2⟩⟩⟩
    · rw [gy] at g2
      subst eH1 eH2
      exact ⟨⟨updO s.σ y.dst (.tup []), s.H⟩, ⟨d2, .inr ⟨g2, rfl, rfl⟩⟩, ⟨d1, .inr ⟨by rw [gx]; exact g1, rfl, updO_comm a2⟩⟩⟩
theorem OpD.anyc {ox oy : Op} {f : FuncId} {args : List Operand} {σ : Slots} (hx : callOf ox = some (f, args)) {H H1 H2 : Heap} {r ry : SV} (ha : AnyC P f (args.map (sval σ)) r) (h1 : OpD P ox (sval σ) H r H1) (h2 : OpD P oy (sval σ) H1 ry H2) :
    ∃ H', OpD P oy (sval σ) H ry H' ∧ OpD P ox (sval σ) H' r H2 := by
  cases ox with
  | call c =>
    obtain ⟨callee, as, ats⟩ := c
    cases callee with
    | value v =>
      cases v with
      | func g =>
        simp only [callOf, Option.some.injEq, Prod.mk.injEq] at hx
        obtain ⟨rfl, rfl⟩ := hx
        simp only [OpD, userCall] at h1 ⊢
        obtain ⟨rfl, _⟩ := h1
        refine ⟨H2, h2, rfl, ?_⟩
        simp only [wpCall, sval_func, List.nil_append, List.append_nil]
        exact ha H2
      | _ => simp [callOf] at hx
    | _ => simp [callOf] at hx
  | _ => simp [callOf] at hx

theorem StepD.keep {n : Nat} {ops : Array Oper} {x : Oper} {s s1 : St} {t : Nat} (h : StepD P n ops x s s1) (ht : x.dst ≠ some t) : s1.σ t = s.σ t := by
  have : ∀ r, updO s.σ x.dst r t = s.σ t := fun r => by
    cases hd : x.dst with
    | none => rfl
    | some d =>
      have : t ≠ d := fun e => ht (by rw [hd, e])
      simp [updO, upd, this]
  rcases h.2 with ⟨_, r, _, e⟩ | ⟨_, _, e⟩
  · rw [e, this]
  · rw [e, this]
theorem RunD.keep {n : Nat} {ops : Array Oper} {t : Nat} : ∀ {l : List Nat} {s s' : St}, RunD P n ops l s s' → (∀ m ∈ l, ∀ o, ops[m]? = some o → o.dst ≠ some t) → s'.σ t = s.σ t
  | [], s, s', h, _ => by simp only [RunD] at h; rw [h]
  | i :: l, s, s', h, ht => by
    simp only [RunD] at h
    obtain ⟨o, s1, ho, h1, h2⟩ := h
    rw [RunD.keep h2 (fun m hm => ht m (by simp [hm])), h1.keep (ht i (by simp) o ho)]

theorem StepD.wrote {n : Nat} {ops : Array Oper} {x : Oper} {s s1 : St} {t : Nat} (h : StepD P n ops x s s1) (ht : x.dst = some t) (hg : gst ops x s.σ = some true) : ∃ r, OpD P x.op (sval s.σ) s.H r s1.H ∧ s1.σ t = r := by
  rcases h.2 with ⟨_, r, ho, e⟩ | ⟨g, _, _⟩
  · exact ⟨r, ho, by rw [e, ht]; simp [updO, upd]⟩
  · rw [g] at hg; simp at hg
def FrontOk (P : Program) (ops : Array Oper) (y : Oper) (i : Nat) (s' : St) : List Nat → List Nat → Prop
  | [], _ => True
  | k :: l1, l2 => (∀ x, ops[k]? = some x → pairOk ops x y = true ∨ (∃ f args d, x.apart ops y = true ∧ callOf x.op = some (f, args) ∧ x.dst = some d ∧ AnyC P f (args.map (sval s'.σ)) (s'.σ d) ∧ (∀ m ∈ k :: (l1 ++ i :: l2), ∀ o, ops[m]? = some o → ∀ t, .tmp t ∈ args → o.dst ≠ some t) ∧ ∀ m ∈ l1 ++ i :: l2, ∀ o, ops[m]? = some o → o.dst ≠ some d) ∨ ∃ tx, x.apart ops y = true ∧ ldSlot x.op = some tx ∧ (∀ m ∈ k :: (l1 ++ i :: l2), ∀ o, ops[m]? = some o → o.dst ≠ some tx) ∧
      ((∃ ty, stSlot y.op = some ty ∧ apartV (s'.σ tx) (s'.σ ty) ∧ ∀ m ∈ k :: (l1 ++ i :: l2), ∀ o, ops[m]? = some o → o.dst ≠ some ty) ∨
       apartV (s'.σ tx) (s'.σ tx) ∨
       (∃ td, isBS y.op = true ∧ y.dst = some td ∧ apartV (s'.σ tx) (s'.σ td) ∧ ∀ m ∈ k :: (l1 ++ l2), ∀ o, ops[m]? = some o → o.dst ≠ some td))) ∧ FrontOk P ops y i s' l1 l2

theorem runD_front2 {n : Nat} {ops : Array Oper} {i : Nat} {y : Oper} (hy : ops[i]? = some y) : ∀ (l1 : List Nat) (l2 : List Nat) (s s' : St), FrontOk P ops y i s' l1 l2 →
    RunD P n ops (l1 ++ i :: l2) s s' → RunD P n ops (i :: (l1 ++ l2)) s s'
  | [], l2, s, s', _, h => h
  | k :: l1, l2, s, s', hp, h => by
    simp only [List.cons_append, RunD] at h
    obtain ⟨x, s1, hx, h1, h2⟩ := h
    have h3 := runD_front2 hy l1 l2 s1 s' hp.2 h2
    simp only [RunD] at h3
    obtain ⟨y', s2, hy', h4, h5⟩ := h3
    rw [hy] at hy'
    simp at hy'; subst hy'
    have hsw : ∃ s1', StepD P n ops y s s1' ∧ StepD P n ops x s1' s2 := by
      rcases hp.1 x hx with hp | ⟨f, args, d, ha, hc, hd, hany, hma, hmd⟩ | ⟨tx, ha, hl, hmx, hw⟩
      · exact StepD.swap hp h1 h4
      · have hkeep : ∀ t, (∀ m ∈ k :: (l1 ++ i :: l2), ∀ o, ops[m]? = some o → o.dst ≠ some t) → s'.σ t = s.σ t := fun t ht => by
          rw [RunD.keep h5 (fun m hm => ht m (by simp at hm ⊢; rcases hm with h | h <;> simp [h])), h4.keep (ht i (by simp) y hy), h1.keep (ht k (by simp) x hx)]
        have hargs : args.map (sval s'.σ) = args.map (sval s.σ) := List.map_congr_left (fun a ham => by
          cases a with
          | tmp t => exact hkeep t (fun m hm o ho => hma m hm o ho t ham)
          | _ => rfl)
        have hdv : s'.σ d = s1.σ d := by
          rw [RunD.keep h5 (fun m hm => hmd m (by simp at hm ⊢; rcases hm with h | h <;> simp [h])), h4.keep (hmd i (by simp) y hy)]
        rw [hargs, hdv] at hany
        exact StepD.swapC ha hd rfl (fun ry H1 H2 g1 g2 => OpD.anyc hc hany g1 g2) h1 h4
      · have hkeep : ∀ t, (∀ m ∈ k :: (l1 ++ i :: l2), ∀ o, ops[m]? = some o → o.dst ≠ some t) → s'.σ t = s.σ t := fun t ht => by
          rw [RunD.keep h5 (fun m hm => ht m (by simp at hm ⊢; rcases hm with h | h <;> simp [h])), h4.keep (ht i (by simp) y hy), h1.keep (ht k (by simp) x hx)]
        rcases hw with ⟨ty, hst, hv, hmy⟩ | hv | ⟨td, hbs, hd, hv, hmd⟩
        · rw [hkeep tx hmx, hkeep ty hmy] at hv
          exact StepD.swapK ha (fun rx ry H1 H2 g1 g2 => OpD.ldst hl hst hv g1 g2) h1 h4
        · rw [hkeep tx hmx] at hv
          exact StepD.swapK ha (fun rx ry H1 H2 g1 g2 => OpD.ldr hl hv g1 g2) h1 h4
        · rw [hkeep tx hmx, RunD.keep h5 (fun m hm => hmd m (by simp at hm ⊢; rcases hm with h | h <;> simp [h]))] at hv
          rcases h4.2 with ⟨hg, r, ho, e⟩ | ⟨hg, eH, e⟩
          · have er : s2.σ td = r := by rw [e, hd]; simp [updO, upd]
            rw [er] at hv
            exact StepD.swapK2 ha hd er (fun rx H1 H2 g1 g2 => OpD.ldbs hl hbs hv g1 g2) h1 h4 hg
          · exact StepD.swapN ha h1 h4 hg
    obtain ⟨s1', g1, g2⟩ := hsw
    simp only [List.cons_append, RunD]
    exact ⟨y, s1', hy, g1, x, s2, hx, g2, h5⟩

theorem frontOk_of {ops : Array Oper} {y : Oper} {i : Nat} {s' : St} {D : List (Nat × Nat)} {C : List Nat} (hside : SideP D s') (hsc : SideC P ops.toList C s') : ∀ (l1 l2 : List Nat), (l1 ++ i :: l2).Pairwise (· < ·) →
    (∀ k ∈ l1, ∀ x, ops[k]? = some x → pairOk ops x y = true ∨ condOk ops k i x y D C = true) → (∀ m ∈ l1 ++ i :: l2, waitsT ops 6 y m = true → False) → (∀ m ∈ l1 ++ i :: l2, m < ops.size) → FrontOk P ops y i s' l1 l2
  | [], _, _, _, _, _ => trivial
  | k :: l1, l2, hs, hp, hw, hz => by
    have hs0 := hs
    simp only [List.cons_append, List.pairwise_cons] at hs
    refine ⟨fun x hx => ?_, frontOk_of hside hsc l1 l2 hs.2 (fun k' hk' => hp k' (by simp [hk'])) (fun m hm => hw m (by rw [List.cons_append]; exact List.mem_cons_of_mem _ hm)) (fun m hm => hz m (by rw [List.cons_append]; exact List.mem_cons_of_mem _ hm))⟩
    have hmem : ∀ m, m ∈ k :: (l1 ++ i :: l2) → m ∈ k :: l1 ++ i :: l2 := fun m h => by simpa using h
    have hge : ∀ m ∈ k :: (l1 ++ i :: l2), ¬ m < k := fun m hm => by
      rcases List.mem_cons.1 hm with rfl | h
      · omega
      · have := hs.1 m h; omega
    rcases hp k (by simp) x hx with h | h
    · exact .inl h
    · right
      rw [condOk, Bool.or_eq_true] at h
      rcases h with h | h
      · left
        simp only [Bool.and_eq_true] at h
        obtain ⟨h1, h2⟩ := h
        split at h2
        · rename_i dx f args e1 e2
          simp only [Bool.and_eq_true] at h2
          have hg := hsc.get (k := k) (by simpa using h2.1)
          rw [Array.getElem?_toList, hx] at hg
          simp only [callAny, e1, e2] at hg
          refine ⟨f, args, dx, h1, e2, e1, hg, fun m hm o ho t ht => ?_, fun m hm o ho => ?_⟩
          · have := List.all_eq_true.1 h2.2 m (by simpa using hz m (hmem m hm))
            rw [ho] at this
            simp only [Bool.and_eq_true, Bool.or_eq_true, decide_eq_true_eq] at this
            have := List.all_eq_true.1 (this.1.resolve_left (hge m hm)) _ ht
            simpa using this
          · have := List.all_eq_true.1 h2.2 m (by simpa using hz m (by simpa using List.mem_cons_of_mem k hm))
            rw [ho] at this
            simp only [Bool.and_eq_true, Bool.or_eq_true, decide_eq_true_eq, bne_iff_ne, ne_eq] at this
            refine this.2.resolve_left (fun e => ?_)
            have := hs.1 m hm
            omega
        · cases h2
      right
      simp only [Bool.and_eq_true] at h
      obtain ⟨h1, h2⟩ := h
      split at h2
      · rename_i tx e1
        simp only [Bool.and_eq_true, Bool.or_eq_true] at h2
        obtain ⟨h3, h4⟩ := h2
        refine ⟨tx, h1, e1, fun m hm o ho => ?_, ?_⟩
        · have := List.all_eq_true.1 h3 m (by simpa using hz m (hmem m hm))
          rw [ho] at this
          simp only [Bool.or_eq_true, decide_eq_true_eq, bne_iff_ne, ne_eq] at this
          exact this.resolve_left (hge m hm)
        · rcases h4 with (h4 | h4) | h4
          · left
            split at h4
            · rename_i ty e2
              simp only [Bool.and_eq_true] at h4
              refine ⟨ty, e2, hside.get (p := (tx, ty)) (by simpa using h4.1), fun m hm o ho e => ?_⟩
              have := List.all_eq_true.1 h4.2 m (by simpa using hz m (hmem m hm))
              rw [ho] at this
              simp only [Bool.or_eq_true, bne_iff_ne, ne_eq] at this
              rcases this with g | g
              · exact g e
              · exact hw m (hmem m hm) g
            · cases h4
          · exact .inr (.inl (hside.get (p := (tx, tx)) (by simpa using h4)))
          · right; right
            split at h4
            · rename_i td e2
              simp only [Bool.and_eq_true] at h4
              refine ⟨td, h4.1.1, e2, hside.get (p := (tx, td)) (by simpa using h4.1.2), fun m hm o ho => ?_⟩
              have hm' : m ∈ k :: (l1 ++ i :: l2) := by simp at hm ⊢; rcases hm with h | h | h <;> simp [h]
              have := List.all_eq_true.1 h4.2 m (by simpa using hz m (hmem m hm'))
              rw [ho] at this
              simp only [Bool.or_eq_true, decide_eq_true_eq, bne_iff_ne, ne_eq] at this
              refine this.resolve_left (fun e => ?_)
              subst e
              have hnd : (k :: l1 ++ m :: l2).Nodup := hs0.imp (fun h => by omega)
              have hnd2 : m ∉ k :: (l1 ++ l2) := by
                have := List.perm_middle.nodup_iff.1 hnd
                rw [List.nodup_cons] at this
                simpa using this.1
              exact hnd2 hm
            · cases h4
      · cases h2

theorem wpAny_of_run2 {n : Nat} {ops : Array Oper} {Q : Exit → Act → World → Prop} {D : List (Nat × Nat)} {C : List Nat} (hok : drawOk2 ops D C = true) (s' : St) (hside : SideP D s') (hsc : SideC P ops.toList C s') : ∀ (fuel : Nat) (listed : Array Bool) (s : St) (j : JMap) (a : Act) (w : World), listed.size = ops.size → ClosedL ops listed →
    (left ops.size listed).length ≤ fuel → RunD P n ops (left ops.size listed) s s' → SAll n j s a w → (∀ j' a' w', SAll n j' s' a' w' → Nx j s.H w j' s'.H w' → Q .normal a' w') → wpAny P .any ops Q fuel listed a w := by
  have hok' : ∀ i y, ops[i]? = some y → (∀ e ∈ y.after, Region.binds .any e = true → e.on < i) ∧ ∀ k, k < i → ∀ x, ops[k]? = some x → waitsT ops 6 y k = true ∨ pairOk ops x y = true ∨ condOk ops k i x y D C = true := by
    intro i y hy
    have hi : i < ops.size := by
      rcases Nat.lt_or_ge i ops.size with h | h
      · exact h
      · rw [Array.getElem?_eq_none h] at hy; simp at hy
    have := List.all_eq_true.1 hok i (by simpa using hi)
    rw [hy] at this
    simp only [Bool.and_eq_true] at this
    refine ⟨fun e he hb => ?_, fun k hk x hx => ?_⟩
    · have h1 := Array.all_eq_true.1 this.1
      obtain ⟨m, hm, rfl⟩ := Array.mem_iff_getElem.1 he
      have := h1 m hm
      simpa [hb] using this
    · have := List.all_eq_true.1 this.2 k (by simpa using hk)
      rw [hx] at this
      simp only [Bool.or_eq_true] at this
      rcases this with ((h | h) | h) | h
      · exact .inl (by simp only [waitsT, h, Bool.true_or])
      · exact .inr (.inl h)
      · exact .inl h
      · exact .inr (.inr h)
  have ready_nil : ∀ listed : Array Bool, listed.size = ops.size → Region.ready .any ops listed = [] → left ops.size listed = [] := by
    intro listed hs hr
    cases hl : left ops.size listed with
    | nil => rfl
    | cons i rest =>
      exfalso
      have hmem : i ∈ left ops.size listed := by rw [hl]; simp
      have hi := List.mem_filter.1 hmem
      have hlt : i < ops.size := by simpa using hi.1
      have hsmall : ∀ k, k < i → listed.getD k true = true := by
        intro k hk
        cases hk' : listed.getD k true with
        | true => rfl
        | false =>
          exfalso
          have hkm : k ∈ left ops.size listed := List.mem_filter.2 ⟨by simp; omega, by simp [hk']⟩
          have hsorted : (left ops.size listed).Pairwise (· < ·) := (List.pairwise_lt_range).filter _
          rw [hl] at hsorted hkm
          rcases List.mem_cons.1 hkm with rfl | h
          · omega
          · have := (List.pairwise_cons.1 hsorted).1 k h
            omega
      have : i ∈ Region.ready .any ops listed := by
        refine List.mem_filter.2 ⟨by simpa using hlt, ?_⟩
        rw [Array.getElem?_eq_getElem hlt]
        simp only [Option.map_some, Option.getD_some, Bool.and_eq_true]
        refine ⟨hi.2, Array.all_eq_true.2 (fun m hm => ?_)⟩
        cases hb : Region.binds .any (ops[i]).after[m] with
        | false => simp
        | true =>
          have h1 := (hok' i ops[i] (Array.getElem?_eq_getElem hlt)).1 _ (Array.getElem_mem hm) hb
          have h2 := hsmall _ h1
          have h3 : listed.getD ((ops[i]).after[m]).on false = true := by
            rw [Array.getD_eq_getD_getElem?, Array.getElem?_eq_getElem (by omega)] at h2 ⊢
            simpa using h2
          simp [h3]
      rw [hr] at this
      simp at this
  intro fuel
  induction fuel with
  | zero =>
    intro listed s j a w hs hcl hf hrun ha hq
    have hl : left ops.size listed = [] := by simpa using hf
    rw [hl] at hrun
    simp only [RunD] at hrun; subst hrun
    refine ⟨?_, hq j a w ha (Nx.refl _ _ _)⟩
    cases hr : Region.ready .any ops listed with
    | nil => rfl
    | cons i rest =>
      exfalso
      have hm : i ∈ Region.ready .any ops listed := by rw [hr]; simp
      have hm := List.mem_filter.1 hm
      simp only [Bool.and_eq_true] at hm
      have : i ∈ left ops.size listed := List.mem_filter.2 ⟨hm.1, hm.2.1⟩
      rw [hl] at this; simp at this
  | succ fuel ih =>
    intro listed s j a w hs hcl hf hrun ha hq
    refine ⟨fun hr => ?_, fun i hi => ?_⟩
    · rw [ready_nil listed hs hr] at hrun
      simp only [RunD] at hrun; subst hrun
      exact hq j a w ha (Nx.refl _ _ _)
    · have hm := List.mem_filter.1 hi
      simp only [Bool.and_eq_true] at hm
      have hlt : i < ops.size := by simpa using hm.1
      have hno : listed.getD i true = false := by simpa using hm.2.1
      have hy : ops[i]? = some ops[i] := Array.getElem?_eq_getElem hlt
      have hdir : ∀ e ∈ (ops[i]).after, Region.binds .any e = true → listed.getD e.on false = true := by
        intro e he hb
        have hall := hm.2.2
        rw [hy] at hall
        simp only [Option.map_some, Option.getD_some] at hall
        obtain ⟨m, hm', rfl⟩ := Array.mem_iff_getElem.1 he
        have := Array.all_eq_true.1 hall m hm'
        rw [hb] at this
        simpa only [Bool.not_true, Bool.false_or] using this
      have hset : ∀ m, listed.getD m false = true → (listed.setIfInBounds i true).getD m false = true := by
        intro m h
        by_cases hmi : m = i
        · subst hmi
          simp [Array.getD_eq_getD_getElem?, hs, hlt]
        · rw [Array.getD_eq_getD_getElem?] at h ⊢
          rw [Array.getElem?_setIfInBounds_ne (Ne.symm hmi)]
          exact h
      have hcl' : ClosedL ops (listed.setIfInBounds i true) := by
        intro m y hmy hlm e he hb
        by_cases hmi : m = i
        · subst hmi
          rw [hy] at hmy
          simp at hmy
          subst hmy
          exact hset _ (hdir e he hb)
        · refine hset _ (hcl m y hmy ?_ e he hb)
          rw [Array.getD_eq_getD_getElem?] at hlm ⊢
          rwa [Array.getElem?_setIfInBounds_ne (Ne.symm hmi)] at hlm
      obtain ⟨l1, l2, e1, e2, e3⟩ := left_split hs hlt hno
      rw [e1] at hrun
      have hsorted : (l1 ++ i :: l2).Pairwise (· < ·) := by rw [← e1]; exact (List.pairwise_lt_range).filter _
      have hnl : ∀ m ∈ l1 ++ i :: l2, m < ops.size ∧ listed.getD m true = false := fun m hm => by
        rw [← e1] at hm
        have := List.mem_filter.1 hm
        exact ⟨by simpa using this.1, by simpa using this.2⟩
      have hnw : ∀ m ∈ l1 ++ i :: l2, waitsT ops 6 ops[i] m = true → False := fun m hm hw => by
        obtain ⟨hm1, hm2⟩ := hnl m hm
        have := waitsT_listed hcl 6 _ hdir hw
        rw [Array.getD_eq_getD_getElem?, Array.getElem?_eq_getElem (by omega)] at this hm2
        simp at this hm2
        rw [this] at hm2; simp at hm2
      have hfront := runD_front2 hy l1 l2 s s' (frontOk_of (i := i) hside hsc l1 l2 hsorted (fun k hk x hx => ((hok' i _ hy).2 k (e3 k hk).1 x hx).resolve_left (fun hw => hnw k (by simp [hk]) hw)) (fun m hm hw => hnw m hm hw) (fun m hm => (hnl m hm).1)) hrun
      simp only [RunD] at hfront
      obtain ⟨y, s1, hy', hstep, hrest⟩ := hfront
      refine stepD_real hy' hstep ha (fun j' a' w' h1 h2 => ?_)
      refine ih (listed.setIfInBounds i true) s1 j' a' w' (by simpa using hs) hcl' ?_ (by rw [e2]; exact hrest) h1 (fun j'' a'' w'' g1 g2 => hq j'' a'' w'' g1 (h2.trans g2))
      rw [e2]
      rw [e1] at hf
      simp at hf ⊢
      omega

theorem SW.regionD2 {n : Nat} {id : Nat} {ops : Array Oper} {Q : Exit → St → Prop} {s : St} (hm : P.follows .mixedOrders = true) {D : List (Nat × Nat)} {C : List Nat} (hok : drawOk2 ops D C = true) (h : opsW P n true ops ops.toList s (fun s' => SideP D s' ∧ SideC P ops.toList C s' ∧ Q .normal s')) : SW P n (.region id ops true) Q s := by
  intro j a w ha
  obtain ⟨s', hrun, hside, hsc, hQ⟩ := runD_of_opsW ops.toList 0 (fun k => by simp) s h
  have hd : SAll n j s a w.drew := ⟨ha.rel.drew, ha.slots.nx ha.rel (Nx.drew j s.H w), ha.size, ha.defers⟩
  refine wp_region_any hm ?_
  have hleft : left ops.size (Array.replicate ops.size false) = List.range' 0 ops.toList.length := by
    unfold left
    rw [← List.range_eq_range']
    simp only [Array.length_toList]
    apply List.filter_eq_self.2
    intro k hk
    simp at hk
    simp [Array.getD_eq_getD_getElem?, hk]
  refine wpAny_of_run2 hok s' hside hsc ops.size _ s j a w.drew (by simp) (fun m y _ h => by simp [Array.getD_eq_getD_getElem?, Array.getElem?_replicate] at h; split at h <;> simp at h) (by rw [hleft]; simp) (by rw [hleft]; exact hrun) hd (fun j' a' w' h1 h2 => ⟨j', s', h1, (Nx.drew j s.H w).trans h2, hQ⟩)

/-- All regions that draw are such that the text's order serves, where the named pairs of slots are apart. -/
def drawsOk2 (D : Nat → List (Nat × Nat) × List Nat) : Code → Bool
  | .region id ops draw => !draw || drawOk2 ops (D id).1 (D id).2
  | .seq a b => drawsOk2 D a && drawsOk2 D b
  | .cond _ a b => drawsOk2 D a && drawsOk2 D b
  | .block _ c => drawsOk2 D c
  | .loop c => drawsOk2 D c
  | _ => true
def vc2 (P : Program) (D : Nat → List (Nat × Nat) × List Nat) (n : Nat) : Code → (Exit → St → Prop) → St → Prop
  | .skip, Q, s => Q .normal s
  | .label _, Q, s => Q .normal s
  | .region id ops draw, Q, s => opsW P n draw ops ops.toList s (fun s' => SideP (D id).1 s' ∧ SideC P ops.toList (D id).2 s' ∧ Q .normal s')
  | .seq a b, Q, s => vc2 P D n a (seqQ (fun s' => vc2 P D n b Q s') Q) s
  | .cond c a b, Q, s => match sval s.σ c with
    | .val (.bool t) => (t = true → vc2 P D n a Q s) ∧ (t = false → vc2 P D n b Q s)
    | _ => False
  | .block id c, Q, s => vc2 P D n c (blockQ id Q) s
  | .loop c, Q, s => SW P n (.loop c) Q s
  | .exit id, Q, s => Q (.exit id) s
  | .ret, Q, s => Q .ret s
  | _, _, _ => False
theorem opsW_mono {n : Nat} {det : Bool} {ops : Array Oper} {K K' : St → Prop} (hk : ∀ s, K s → K' s) : ∀ (rest : List Oper) (s : St), opsW P n det ops rest s K → opsW P n det ops rest s K' := by
  have opm : ∀ (o : Oper) (s : St) (A A' : St → Prop), (∀ s', A s' → A' s') → opW P n det o s A → opW P n det o s A' := by
    rintro o s A A' ha ⟨hd, h⟩
    refine ⟨hd, ?_⟩
    split at h
    · split at h
      · exact h.mono (fun r H' hh => ha _ hh)
      · obtain ⟨r, h1, h2⟩ := h
        exact ⟨r, h1, ha _ h2⟩
    · split at h
      · exact ha _ h
      · exact h
  intro rest
  induction rest with
  | nil => exact fun s h => hk s h
  | cons o rest ih =>
    intro s h
    simp only [opsW] at h ⊢
    split at h
    · exact opm _ _ _ _ ih h
    · split at h
      · split at h
        · exact opm _ _ _ _ ih h
        · exact ⟨h.1, ih _ h.2⟩
        · exact h
      · exact h
theorem SW_of_vc2 (D : Nat → List (Nat × Nat) × List Nat) {n : Nat} (hm : P.follows .mixedOrders = true) : ∀ (c : Code) (Q : Exit → St → Prop) (s : St), drawsOk2 D c = true → vc2 P D n c Q s → SW P n c Q s
  | .skip, Q, s, _, h => SW.skip h
  | .label _, Q, s, _, h => SW.label h
  | .region id ops draw, Q, s, hd, h => by
    cases draw with
    | false => exact SW.region (opsW_mono (fun s h => h.2.2) _ _ h)
    | true => exact SW.regionD2 (D := (D id).1) (C := (D id).2) hm (by simpa [drawsOk2] using hd) h
  | .seq a b, Q, s, hd, h => by
    simp only [drawsOk2, Bool.and_eq_true] at hd
    refine SW.seq (SW.mono (SW_of_vc2 D hm a _ s hd.1 h) ?_)
    intro e s' he
    cases e with
    | normal => exact SW_of_vc2 D hm b Q s' hd.2 he
    | _ => exact he
  | .cond c a b, Q, s, hd, h => by
    simp only [drawsOk2, Bool.and_eq_true] at hd
    simp only [vc2] at h
    split at h
    · rename_i t ht
      exact SW.cond ht (fun e => SW_of_vc2 D hm a Q s hd.1 (h.1 e)) (fun e => SW_of_vc2 D hm b Q s hd.2 (h.2 e))
    · exact h.elim
  | .block id c, Q, s, hd, h => SW.block (SW_of_vc2 D hm c _ s (by simpa [drawsOk2] using hd) h)
  | .loop c, Q, s, _, h => h
  | .exit id, Q, s, _, h => SW.exit h
  | .ret, Q, s, _, h => SW.ret h
  | .rangeFunc _ _ _ _, _, _, _, h => h.elim
  | .scope _, _, _, _, h => h.elim
  | .goto _, _, _, _, h => h.elim
  | .refuse _, _, _, _, h => h.elim
section
variable (D : Nat → List (Nat × Nat) × List Nat)
theorem vc2_skip (n : Nat) (Q : Exit → St → Prop) (s : St) : vc2 P D n .skip Q s = Q .normal s := (rfl)
theorem vc2_label (n l : Nat) (Q : Exit → St → Prop) (s : St) : vc2 P D n (.label l) Q s = Q .normal s := (rfl)
class KD where
  d : Prop
  k : Prop
def sideW [K : KD] : Prop := K.d ∧ K.k
theorem sideW_true (A : Prop) : @sideW ⟨True, A⟩ = A := by simp [sideW]
theorem vc2_region (n id : Nat) (l : List Oper) (draw : Bool) (Q : Exit → St → Prop) (s : St) : vc2 P D n (.region id l.toArray draw) Q s = opsW P n draw l.toArray l s (fun s' => @needW (SideP (D id).1 s') ⟨@needW (SideC P l (D id).2 s') ⟨Q .normal s'⟩⟩) := (rfl)
theorem vc2_seq (n : Nat) (a b : Code) (Q : Exit → St → Prop) (s : St) : vc2 P D n (.seq a b) Q s = vc2 P D n a (seqQ (fun s' => vc2 P D n b Q s') Q) s := (rfl)
theorem vc2_cond (n : Nat) (c : Operand) (a b : Code) (Q : Exit → St → Prop) (s : St) : vc2 P D n (.cond c a b) Q s = @condW (sval s.σ c) ⟨vc2 P D n a Q s, vc2 P D n b Q s⟩ := (rfl)
theorem vc2_block (n id : Nat) (c : Code) (Q : Exit → St → Prop) (s : St) : vc2 P D n (.block id c) Q s = vc2 P D n c (blockQ id Q) s := (rfl)
theorem vc2_loop (n : Nat) (c : Code) (Q : Exit → St → Prop) (s : St) : vc2 P D n (.loop c) Q s = @LoopW P n s ⟨c, Q⟩ := (rfl)
theorem vc2_exit (n id : Nat) (Q : Exit → St → Prop) (s : St) : vc2 P D n (.exit id) Q s = Q (.exit id) s := (rfl)
theorem vc2_ret (n : Nat) (Q : Exit → St → Prop) (s : St) : vc2 P D n .ret Q s = Q .ret s := (rfl)
end
def onD (r : Nat) (l : List (Nat × Nat)) (C : List Nat) : Nat → List (Nat × Nat) × List Nat := fun x => if x = r then (l, C) else ([], [])
theorem onD_at (r : Nat) (l : List (Nat × Nat)) (C : List Nat) (x : Nat) : onD r l C x = if x = r then (l, C) else ([], []) := (rfl)
theorem sideC_nil (ops : List Oper) (s : St) : SideC P ops [] s = True := (rfl)
theorem sideC_cons (ops : List Oper) (k : Nat) (C : List Nat) (s : St) : SideC P ops (k :: C) s = (callAny P (ops[k]?) s ∧ SideC P ops C s) := (rfl)
theorem callAny_at (d : Nat) (f : FuncId) (args : List Operand) (ats : Array TypeId) (ty : TypeId) (pos : String) (after : Array Edge) (gd : Option (Nat × Bool)) (s : St) : callAny P (some ⟨some d, .call ⟨.value (.func f), args.toArray, ats⟩, ty, pos, after, gd⟩) s = AnyC P f (args.map (sval s.σ)) (s.σ d) := (rfl)
theorem PCall.anyC {f : FuncId} {args args' : List SV} {T : SV} (h : PCall P f args' T) (fu : Nat) (hv : ∀ H, viewL H fu args = some args') : AnyC P f args T := fun H => h.callS fu (hv H)
theorem side_nil (s : St) : SideP [] s = True := (rfl)
theorem side_cons (p : Nat × Nat) (l : List (Nat × Nat)) (s : St) : SideP (p :: l) s = (apartV (s.σ p.1) (s.σ p.2) ∧ SideP l s) := (rfl)
theorem apartV_o {b b' o o' : Nat} (h : b ≠ b') : apartV (.optr b o) (.optr b' o') = True := eq_true h
theorem apartV_w {b b' o o' n c z : Nat} {e : Bool} (h : b ≠ b') : apartV (.optr b o) (.own b' o' n c z e) = True := eq_true h
theorem apartV_r (cs : List SV) (o : Nat) (x : SV) : apartV (.rptr cs o) x = True := (rfl)
attribute [go_sem ↓] vc2_skip vc2_label vc2_region vc2_seq vc2_cond vc2_block vc2_loop vc2_exit vc2_ret
attribute [go_sem] sideC_nil sideC_cons callAny_at onD_at side_nil side_cons apartV_o apartV_w apartV_r
end Go.Sh
