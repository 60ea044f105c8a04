/-
  Regions that draw their order: the text's order serves every order, where no two operations that may change places meet in memory.
-/
import Derived.Test.YtehimkdkflnkbaaShH
namespace Go.Sh
set_option linter.unusedSimpArgs false
set_option linter.unusedVariables false
open Go Go.RowKit
variable {P : Program}

/-- 0: looks at its operands alone; 1: looks at the heap, too; 2: changes the heap. -/
def cls : Op → Nat
  | .move _ => 0 | .assign _ => 0 | .pick _ _ _ => 0 | .build _ _ => 0 | .nilCheck _ => 0 | .binOp _ _ _ _ _ => 0 | .unOp _ _ _ => 0 | .convert _ _ _ => 0 | .makeInterface _ _ => 0 | .makeFunc _ _ _ => 0
  | .fieldAddr _ _ _ => 0 | .field _ _ _ => 0 | .indexAddr _ _ _ => 0 | .index _ _ _ => 0 | .extract _ _ => 0
  | .load _ _ => 1 | .slice _ _ _ _ _ => 1
  | .call c => match c.callee with
    | .builtin .len => 0
    | .builtin .max => 0
    | .builtin .min => 0
    | .builtin _ => 2
    | _ => 1
  | _ => 2

theorem cls0_user {op : Op} (h : cls op = 0) : userCall op = none := by
  cases op <;> simp only [userCall]
  rename_i c
  obtain ⟨callee, args, ats⟩ := c
  cases callee <;> simp [cls] at h ⊢

theorem cls0_sop {op : Op} {H H' : Heap} {ρ : Operand → SV} {s : SV} (h : cls op = 0) (hs : sop P H ρ op = some (s, H')) : H' = H ∧ ∀ H2, sop P H2 ρ op = some (s, H2) := by
  cases op <;> simp only [cls] at h <;> try (exact absurd h (by decide))
  case call c =>
    obtain ⟨callee, args, ats⟩ := c
    cases callee with
    | builtin b =>
      cases b <;> simp only [sop, sbuiltin] at h hs ⊢ <;> try (exact absurd h (by decide))
      all_goals
        (repeat' split at hs) <;> simp_all
    | value f => exact absurd h (by simp)
    | invoke f m => exact absurd h (by simp)
  all_goals
    simp only [sop] at hs ⊢
    first
      | (simp at hs; obtain ⟨rfl, rfl⟩ := hs; exact ⟨rfl, fun _ => rfl⟩)
      | ((repeat' split at hs) <;> simp_all)

theorem cls1_sop {op : Op} {H H' : Heap} {ρ : Operand → SV} {s : SV} (h : cls op = 1) (hs : sop P H ρ op = some (s, H')) : H' = H := by
  cases op <;> simp only [cls] at h <;> try (exact absurd h (by decide))
  case call c =>
    obtain ⟨callee, args, ats⟩ := c
    cases callee with
    | builtin b => cases b <;> exact absurd h (by simp)
    | value f => simp [sop] at hs
    | invoke f m => simp [sop] at hs
  all_goals
    simp only [sop] at hs
    (repeat' split at hs) <;> simp_all

theorem sfill_congr {place : Nat → Option (Nat × Nat)} {ρ ρ' : Operand → SV} : ∀ (parts : List (Nat × Operand)) (cells : List SV), (∀ p ∈ parts, ρ p.2 = ρ' p.2) → sfill place ρ cells parts = sfill place ρ' cells parts
  | [], _, _ => rfl
  | (i, x) :: rest, cells, h => by
    simp only [sfill, h (i, x) (by simp)]
    split
    · split
      · exact sfill_congr rest _ (fun p hp => h p (by simp [hp]))
      · rfl
    · rfl

theorem sop_congr {op : Op} {H : Heap} {ρ ρ' : Operand → SV} (h : ∀ x ∈ op.operands, ρ x = ρ' x) : sop P H ρ op = sop P H ρ' op := by
  have lmap : ∀ xs : List Operand, (∀ x ∈ xs, ρ x = ρ' x) → xs.map ρ = xs.map ρ' := fun xs hx => List.map_congr_left hx
  have omap : ∀ o : Option Operand, (∀ x, o = some x → ρ x = ρ' x) → o.map ρ = o.map ρ' := fun o ho => by cases o <;> simp_all
  cases op <;> simp only [Op.operands] at h <;> simp only [sop] <;> try rfl
  case move x => rw [h x (by simp)]
  case assign x => rw [h x (by simp)]
  case pick c a b => rw [h c (by simp), h a (by simp), h b (by simp)]
  case box t x => rw [h x (by simp)]
  case build t parts =>
    have : sbuild P t ρ parts.toList = sbuild P t ρ' parts.toList := by
      unfold sbuild
      split
      · rw [sfill_congr parts.toList _ (fun p hp => h p.2 (by simp; exact ⟨p.1, by simpa using hp⟩))]
      · rfl
    rw [this]
  case buildSlice t n parts =>
    unfold sbuildSlice
    split
    · split
      · rw [sfill_congr parts.toList _ (fun p hp => h p.2 (by simp; exact ⟨p.1, by simpa using hp⟩))]
      · rfl
    · rfl
  case load t a => rw [h a (by simp)]
  case store t a x => rw [h a (by simp), h x (by simp)]
  case nilCheck x => rw [h x (by simp)]
  case binOp o t x y ty => rw [h x (by simp), h y (by simp)]
  case unOp o t x => rw [h x (by simp)]
  case convert a b x => rw [h x (by simp)]
  case makeInterface t x => rw [h x (by simp)]
  case makeFunc fn f c => rw [lmap f.toList (fun x hx => h x (by simp; left; simpa using hx)), lmap c.toList (fun x hx => h x (by simp; right; simpa using hx))]
  case makeSlice t l c => rw [h l (by simp), h c (by simp)]
  case slice t x lo hi mx => rw [h x (by simp), omap lo (fun y hy => h y (by simp [hy])), omap hi (fun y hy => h y (by simp [hy])), omap mx (fun y hy => h y (by simp [hy]))]
  case fieldAddr t x f => rw [h x (by simp)]
  case field t x f => rw [h x (by simp)]
  case indexAddr t x i => rw [h x (by simp), h i (by simp)]
  case index t x i => rw [h x (by simp), h i (by simp)]
  case extract x i => rw [h x (by simp)]
  case call c =>
    obtain ⟨callee, args, ats⟩ := c
    cases callee with
    | builtin b => simp only []; rw [lmap args.toList (fun x hx => h x (by simp [Call.operands]; simpa using hx))]
    | _ => rfl

theorem wpCall_congr {H : Heap} {ρ ρ' : Operand → SV} {c : Call} {K : SV → Heap → Prop} (h : ∀ x ∈ c.operands, ρ x = ρ' x) : wpCall P ρ H c K = wpCall P ρ' H c K := by
  obtain ⟨callee, args, ats⟩ := c
  cases callee with
  | value x =>
    simp only [wpCall]
    rw [h x (by simp [Call.operands]), List.map_congr_left (fun y hy => h y (by simp [Call.operands]; right; simpa using hy))]
  | _ => rfl

/-- What one operation does, as a relation with one outcome. -/
def OpD (P : Program) (o : Op) (ρ : Operand → SV) (H : Heap) (r : SV) (H' : Heap) : Prop :=
  match userCall o with
  | some c => H' = H ∧ wpCall P ρ H c (fun r' H'' => r' = r ∧ H'' = H)
  | none => sop P H ρ o = some (r, H')

theorem userCall_operands {o : Op} {c : Call} (h : userCall o = some c) : o.operands = c.operands := by
  cases o <;> simp only [userCall] at h <;> try (simp at h; done)
  rename_i c'
  split at h
  · simp at h
  · simp at h; subst h; rfl

theorem OpD.congr {o : Op} {ρ ρ' : Operand → SV} {H H' : Heap} {r : SV} (h : ∀ x ∈ o.operands, ρ x = ρ' x) (hd : OpD P o ρ H r H') : OpD P o ρ' H r H' := by
  unfold OpD at hd ⊢
  split
  · rename_i c hc
    rw [hc] at hd
    simp only [] at hd
    rw [userCall_operands hc] at h
    exact ⟨hd.1, by rw [← wpCall_congr h]; exact hd.2⟩
  · rename_i hc
    rw [hc] at hd
    simp only [] at hd
    rw [← sop_congr h]; exact hd

/-- Is the guarded operation carried out? -/
def gst (ops : Array Oper) (o : Oper) (σ : Slots) : Option Bool :=
  match o.guard with
  | none => some true
  | some (g, want) => match (ops[g]?).bind (·.dst) with
    | some d => gd (σ d) want
    | none => none

def StepD (P : Program) (n : Nat) (ops : Array Oper) (o : Oper) (s s1 : St) : Prop :=
  dstOk n o.dst ∧ ((gst ops o s.σ = some true ∧ ∃ r, OpD P o.op (sval s.σ) s.H r s1.H ∧ s1.σ = updO s.σ o.dst r) ∨ (gst ops o s.σ = some false ∧ s1.H = s.H ∧ s1.σ = updO s.σ o.dst (.tup [])))

def RunD (P : Program) (n : Nat) (ops : Array Oper) : List Nat → St → St → Prop
  | [], s, s' => s' = s
  | i :: is, s, s' => ∃ o s1, ops[i]? = some o ∧ StepD P n ops o s s1 ∧ RunD P n ops is s1 s'

theorem runD_of_opsW {n : Nat} {ops : Array Oper} {K : St → Prop} : ∀ (rest : List Oper) (i : Nat) (_ : ∀ k, rest[k]? = ops[i + k]?) (s : St), opsW P n true ops rest s K → ∃ s', RunD P n ops (List.range' i rest.length) s s' ∧ K s'
  | [], i, _, s, h => ⟨s, by simp only [List.length_nil, List.range'_zero, RunD], h⟩
  | o :: rest, i, hops, s, h => by
    have ho : ops[i]? = some o := by simpa using (hops 0).symm
    have hrest : ∀ k, rest[k]? = ops[i + 1 + k]? := fun k => by
      have := hops (k + 1)
      simpa [Nat.add_assoc, Nat.add_comm 1 k] using this
    have one : opW P n true o s (fun s' => opsW P n true ops rest s' K) → gst ops o s.σ = some true → ∃ s', RunD P n ops (List.range' i (o :: rest).length) s s' ∧ K s' := by
      rintro ⟨hd, h⟩ hg
      split at h
      · rename_i c hc
        obtain ⟨r, h1, h2⟩ := h
        obtain ⟨s', g1, g2⟩ := runD_of_opsW rest (i + 1) hrest _ h2
        refine ⟨s', ?_, g2⟩
        simp only [List.length_cons, List.range'_succ, RunD]
        exact ⟨o, _, ho, ⟨hd, .inl ⟨hg, r, by unfold OpD; rw [hc]; exact ⟨rfl, h1⟩, rfl⟩⟩, g1⟩
      · rename_i hc
        split at h
        · rename_i r H' hs
          obtain ⟨s', g1, g2⟩ := runD_of_opsW rest (i + 1) hrest _ h
          refine ⟨s', ?_, g2⟩
          simp only [List.length_cons, List.range'_succ, RunD]
          exact ⟨o, _, ho, ⟨hd, .inl ⟨hg, r, by unfold OpD; rw [hc]; exact hs, rfl⟩⟩, g1⟩
        · exact h.elim
    simp only [opsW] at h
    split at h
    · rename_i hg
      exact one h (by simp [gst, hg])
    · rename_i g want hg
      split at h
      · rename_i d hd
        split at h
        · rename_i hb
          exact one h (by simp [gst, hg, hd, hb])
        · rename_i hb
          obtain ⟨hdk, h⟩ := h
          obtain ⟨s', g1, g2⟩ := runD_of_opsW rest (i + 1) hrest _ h
          refine ⟨s', ?_, g2⟩
          simp only [List.length_cons, List.range'_succ, RunD]
          exact ⟨o, ⟨updO s.σ o.dst (.tup []), s.H⟩, ho, ⟨hdk, .inr ⟨by simp [gst, hg, hd, hb], rfl, rfl⟩⟩, g1⟩
        · exact h.elim
      · exact h.elim

def pairOk (ops : Array Oper) (x y : Oper) : Bool := x.apart ops y && (cls x.op == 0 || cls y.op == 0 || (cls x.op == 1 && cls y.op == 1))

theorem sval_updO {σ : Slots} {d : Option Nat} {r : SV} {x : Operand} (h : ∀ t, d = some t → x ≠ .tmp t) : sval (updO σ d r) x = sval σ x := by
  cases d with
  | none => rfl
  | some t =>
    cases x with
    | tmp t' =>
      have : t' ≠ t := fun e => h t rfl (by rw [e])
      simp [sval, updO, upd, this]
    | _ => rfl

theorem apart_op {ops : Array Oper} {y : Oper} {d : Nat} (h : d ∉ y.looksAt ops) {x : Operand} (hx : x ∈ y.op.operands) : x ≠ .tmp d := by
  rintro rfl
  apply h
  simp only [Oper.looksAt, List.mem_append, List.mem_filterMap]
  exact .inl ⟨.tmp d, by simpa using hx, rfl⟩
theorem apart_gst {ops : Array Oper} {y : Oper} {d : Option Nat} {σ : Slots} {r : SV} (h : ∀ t, d = some t → t ∉ y.looksAt ops) : gst ops y (updO σ d r) = gst ops y σ := by
  unfold gst
  cases hg : y.guard with
  | none => rfl
  | some p =>
    obtain ⟨g, want⟩ := p
    simp only []
    cases hd : (ops[g]?).bind (·.dst) with
    | none => rfl
    | some t =>
      simp only []
      have : updO σ d r t = σ t := by
        cases d with
        | none => rfl
        | some t' =>
          have hne : t ≠ t' := by
            rintro rfl
            apply h t rfl
            simp only [Oper.looksAt, List.mem_append]
            right
            rw [hg]
            simp [hd]
          simp [updO, upd, hne]
      rw [this]

theorem updO_comm {σ : Slots} {d e : Option Nat} {r s : SV} (h : ∀ t, d = some t → e ≠ some t) : updO (updO σ d r) e s = updO (updO σ e s) d r := by
  cases d with
  | none => rfl
  | some t =>
    cases e with
    | none => rfl
    | some u =>
      have hne : u ≠ t := fun e => h t rfl (by rw [e])
      funext k
      simp only [updO, upd]
      by_cases h1 : k = t <;> by_cases h2 : k = u <;> simp_all

theorem OpD.cls0 {o : Op} {ρ : Operand → SV} {H H' : Heap} {r : SV} (hc : cls o = 0) (h : OpD P o ρ H r H') : H' = H ∧ ∀ H2, OpD P o ρ H2 r H2 := by
  unfold OpD at h ⊢
  rw [cls0_user hc] at h ⊢
  exact cls0_sop hc h
theorem OpD.cls1 {o : Op} {ρ : Operand → SV} {H H' : Heap} {r : SV} (hc : cls o = 1) (h : OpD P o ρ H r H') : H' = H := by
  unfold OpD at h
  split at h
  · exact h.1
  · exact cls1_sop hc h

theorem StepD.swap {n : Nat} {ops : Array Oper} {x y : Oper} {s s1 s2 : St} (hp : pairOk ops x y = true) (h1 : StepD P n ops x s s1) (h2 : StepD P n ops y s1 s2) :
    ∃ s1', StepD P n ops y s s1' ∧ StepD P n ops x s1' s2 := by
  unfold pairOk at hp
  simp only [Bool.and_eq_true, Bool.or_eq_true, beq_iff_eq] at hp
  obtain ⟨hap, hcl⟩ := hp
  obtain ⟨a1, a2, a3⟩ := Oper.apart_spec hap
  obtain ⟨d1, h1⟩ := h1
  obtain ⟨d2, h2⟩ := h2
  have a2' : ∀ t, y.dst = some t → x.dst ≠ some t := fun t ht e => a2 t e ht
  -- what y sees before and behind x
  have gy : ∀ r, gst ops y (updO s.σ x.dst r) = gst ops y s.σ := fun r => apart_gst a1
  have gx : ∀ r, gst ops x (updO s.σ y.dst r) = gst ops x s.σ := fun r => apart_gst a3
  have oy : ∀ r z, z ∈ y.op.operands → sval (updO s.σ x.dst r) z = sval s.σ z := fun r z hz => sval_updO (fun t ht => apart_op (a1 t ht) hz)
  have ox : ∀ r z, z ∈ x.op.operands → sval (updO s.σ y.dst r) z = sval s.σ z := fun r z hz => sval_updO (fun t ht => apart_op (a3 t ht) hz)
  obtain ⟨σ1, H1⟩ := s1
  obtain ⟨σ2, H2⟩ := s2
  rcases h1 with ⟨g1, rx, o1, e1⟩ | ⟨g1, eH1, e1⟩ <;> rcases h2 with ⟨g2, ry, o2, e2⟩ | ⟨g2, eH2, e2⟩ <;> simp only at * <;> subst e1 <;> subst e2
  · rw [gy] at g2
    have o2' : OpD P y.op (sval s.σ) H1 ry H2 := OpD.congr (oy rx) o2
    have key : ∃ H', OpD P y.op (sval s.σ) s.H ry H' ∧ OpD P x.op (sval (updO s.σ y.dst ry)) H' rx H2 := by
      rcases hcl with (hc | hc) | ⟨hc1, hc2⟩
      · obtain ⟨rfl, hany⟩ := OpD.cls0 hc o1
        exact ⟨H2, o2', OpD.congr (fun z hz => (ox ry z hz).symm) (hany H2)⟩
      · obtain ⟨rfl, hany⟩ := OpD.cls0 hc o2'
        exact ⟨s.H, hany s.H, OpD.congr (fun z hz => (ox ry z hz).symm) o1⟩
      · have e3 := OpD.cls1 hc1 o1
        subst e3
        have e4 := OpD.cls1 hc2 o2'
        subst e4
        exact ⟨s.H, o2', OpD.congr (fun z hz => (ox ry z hz).symm) o1⟩
    obtain ⟨H', k1, k2⟩ := key
    exact ⟨⟨updO s.σ y.dst ry, H'⟩, ⟨d2, .inl ⟨g2, ry, k1, rfl⟩⟩, ⟨d1, .inl ⟨by rw [gx]; exact g1, rx, k2, updO_comm a2⟩⟩⟩
  · rw [gy] at g2
    subst eH2
    exact ⟨⟨updO s.σ y.dst (.tup []), s.H⟩, ⟨d2, .inr ⟨g2, rfl, rfl⟩⟩, ⟨d1, .inl ⟨by rw [gx]; exact g1, rx, OpD.congr (fun z hz => (ox (.tup []) z hz).symm) o1, updO_comm a2⟩⟩⟩
  · rw [gy] at g2
    subst eH1
    exact ⟨⟨updO s.σ y.dst ry, H2⟩, ⟨d2, .inl ⟨g2, ry, OpD.congr (oy (.tup [])) o2, rfl⟩⟩, ⟨d1, .inr ⟨by rw [gx]; exact g1, rfl, updO_comm a2⟩⟩⟩
  · rw [gy] at g2
    subst eH1 eH2
    exact ⟨⟨updO s.σ y.dst (.tup []), s.H⟩, ⟨d2, .inr ⟨g2, rfl, rfl⟩⟩, ⟨d1, .inr ⟨by rw [gx]; exact g1, rfl, updO_comm a2⟩⟩⟩

/-- Does y wait for x, straight away? -/
def waits (y : Oper) (x : Nat) : Bool := y.after.any fun e => Region.binds .any e && e.on == x
/-- .. or by way of others? -/
def waitsT (ops : Array Oper) : Nat → Oper → Nat → Bool
  | 0, y, x => waits y x
  | f + 1, y, x => waits y x || y.after.any fun e => Region.binds .any e && (match ops[e.on]? with | some m => waitsT ops f m x | none => false)
/-- Any two operations of the region, the later y at i: they may change places, or y waits for x; and nothing waits for a later one. -/
def drawOk (ops : Array Oper) : Bool :=
  (List.range ops.size).all fun i => match ops[i]? with
    | some y => (y.after.all fun e => !Region.binds .any e || decide (e.on < i)) && (List.range i).all fun k => match ops[k]? with
      | some x => waits y k || pairOk ops x y || waitsT ops 6 y k
      | none => true
    | none => true

/-- Whatever is listed, what it waits for is listed. -/
def ClosedL (ops : Array Oper) (listed : Array Bool) : Prop := ∀ m y, ops[m]? = some y → listed.getD m false = true → ∀ e ∈ y.after, Region.binds .any e = true → listed.getD e.on false = true
theorem waitsT_listed {ops : Array Oper} {listed : Array Bool} (hc : ClosedL ops listed) {k : Nat} : ∀ (f : Nat) (y : Oper), (∀ e ∈ y.after, Region.binds .any e = true → listed.getD e.on false = true) → waitsT ops f y k = true → listed.getD k false = true := by
  have direct : ∀ y : Oper, (∀ e ∈ y.after, Region.binds .any e = true → listed.getD e.on false = true) → waits y k = true → listed.getD k false = true := by
    intro y hy hw
    obtain ⟨m, hm', hw'⟩ := Array.any_eq_true.1 hw
    simp only [Bool.and_eq_true, beq_iff_eq] at hw'
    have := hy _ (Array.getElem_mem hm') hw'.1
    rwa [hw'.2] at this
  intro f
  induction f with
  | zero => intro y hy hw; exact direct y hy hw
  | succ f ih =>
    intro y hy hw
    simp only [waitsT, Bool.or_eq_true] at hw
    rcases hw with hw | hw
    · exact direct y hy hw
    · obtain ⟨m, hm', hw'⟩ := Array.any_eq_true.1 hw
      simp only [Bool.and_eq_true] at hw'
      have hl := hy _ (Array.getElem_mem hm') hw'.1
      have h2 := hw'.2
      split at h2
      · rename_i z hz
        exact ih z (fun e he hb => hc _ z hz hl e he hb) h2
      · cases h2

/-- An operation that nothing ahead of it is waited for by it comes first. -/
theorem runD_front {n : Nat} {ops : Array Oper} {i : Nat} {y : Oper} (hy : ops[i]? = some y) : ∀ (l1 : List Nat) (l2 : List Nat) (s s' : St), (∀ k ∈ l1, ∀ x, ops[k]? = some x → pairOk ops x y = true) →
    RunD P n ops (l1 ++ i :: l2) s s' → RunD P n ops (i :: (l1 ++ l2)) s s'
  | [], l2, s, s', _, h => h
  | k :: l1, l2, s, s', hp, h => by
    simp only [List.cons_append, RunD] at h
    obtain ⟨x, s1, hx, h1, h2⟩ := h
    have h3 := runD_front hy l1 l2 s1 s' (fun k' hk' => hp k' (by simp [hk'])) h2
    simp only [RunD] at h3
    obtain ⟨y', s2, hy', h4, h5⟩ := h3
    rw [hy] at hy'
    simp at hy'; subst hy'
    obtain ⟨s1', g1, g2⟩ := StepD.swap (hp k (by simp) x hx) h1 h4
    simp only [List.cons_append, RunD]
    exact ⟨y, s1', hy, g1, x, s2, hx, g2, h5⟩

def left (n : Nat) (listed : Array Bool) : List Nat := (List.range n).filter fun i => !listed.getD i true

theorem left_split {n i : Nat} {listed : Array Bool} (hs : listed.size = n) (hi : i < n) (hl : listed.getD i true = false) :
    ∃ l1 l2, left n listed = l1 ++ i :: l2 ∧ left n (listed.setIfInBounds i true) = l1 ++ l2 ∧ (∀ k ∈ l1, k < i ∧ listed.getD k true = false) := by
  have hr : List.range n = List.range i ++ i :: List.range' (i + 1) (n - (i + 1)) := by
    rw [List.range_eq_range', List.range_eq_range']
    have : n = i + (1 + (n - (i + 1))) := by omega
    conv => lhs; rw [this]
    rw [← List.range'_append_1, ← List.range'_append_1]
    simp [List.range'_one]
  have hset : ∀ k, k ≠ i → (listed.setIfInBounds i true).getD k true = listed.getD k true := fun k hk => by
    simp [Array.getD_eq_getD_getElem?, Array.getElem?_setIfInBounds_ne (Ne.symm hk)]
  have hself : (listed.setIfInBounds i true).getD i true = true := by
    simp [Array.getD_eq_getD_getElem?, hs, hi]
  refine ⟨(List.range i).filter fun k => !listed.getD k true, (List.range' (i + 1) (n - (i + 1))).filter fun k => !listed.getD k true, ?_, ?_, ?_⟩
  · unfold left
    rw [hr, List.filter_append, List.filter_cons_of_pos (by simp [hl])]
  · unfold left
    rw [hr, List.filter_append, List.filter_cons_of_neg (by simp [hself])]
    congr 1
    · exact List.filter_congr (fun k hk => by rw [hset k (by simp at hk; omega)])
    · exact List.filter_congr (fun k hk => by rw [hset k (by simp [List.mem_range'] at hk; omega)])
  · intro k hk
    simp at hk
    exact ⟨hk.1, by simpa using hk.2⟩

theorem stepD_real {n : Nat} {ops : Array Oper} {i : Nat} {o : Oper} {s s1 : St} {j : JMap} {a : Act} {w : World} {K : Act → World → Prop} {Q : Exit → Act → World → Prop} (ho : ops[i]? = some o) (h : StepD P n ops o s s1) (ha : SAll n j s a w)
    (hk : ∀ j' a' w', SAll n j' s1 a' w' → Nx j s.H w j' s1.H w' → K a' w') : wpOp P ops Q i K a w := by
  obtain ⟨hd, h⟩ := h
  obtain ⟨σ1, H1⟩ := s1
  simp only [wpOp, ho]
  have wanted : ∀ b, gst ops o s.σ = some b → Region.wanted o (yielded ops a.tmps) = b := by
    intro b hb
    unfold gst at hb
    split at hb
    · rename_i hg
      simp at hb; subst hb
      simp [Region.wanted, hg]
    · rename_i g want hg
      split at hb
      · rename_i d hd'
        exact gd_of ha hg hd' hb
      · simp at hb
  rcases h with ⟨g, r, hop, rfl⟩ | ⟨g, rfl, rfl⟩
  · rw [if_pos (wanted true g)]
    left
    have hW : opW P n false o s (fun s' => s' = ⟨updO s.σ o.dst r, H1⟩) := by
      refine ⟨hd, ?_⟩
      unfold OpD at hop
      split
      · rename_i c hc
        rw [hc] at hop
        simp only at hop
        obtain ⟨rfl, hop⟩ := hop
        exact hop.mono (fun r' H' ⟨e1, e2⟩ => by rw [e1, e2])
      · rename_i hc
        rw [hc] at hop
        simp only at hop
        rw [hop]
    refine opW_sound hW ha (fun j' s' a' w' h1 h2 h3 => ?_)
    subst h3
    exact hk j' a' w' h1 h2
  · rw [if_neg (by rw [wanted false g]; simp)]
    exact hk j _ w (ha.put hd ha.rel (Nx.refl _ _ _) VRel.undef) (Nx.refl _ _ _)

theorem wpAny_of_run {n : Nat} {ops : Array Oper} {Q : Exit → Act → World → Prop} (hok : drawOk ops = true) (s' : St) : ∀ (fuel : Nat) (listed : Array Bool) (s : St) (j : JMap) (a : Act) (w : World), listed.size = ops.size → ClosedL ops listed →
    (left ops.size listed).length ≤ fuel → RunD P n ops (left ops.size listed) s s' → SAll n j s a w → (∀ j' a' w', SAll n j' s' a' w' → Nx j s.H w j' s'.H w' → Q .normal a' w') → wpAny P .any ops Q fuel listed a w := by
  have hok' : ∀ i y, ops[i]? = some y → (∀ e ∈ y.after, Region.binds .any e = true → e.on < i) ∧ ∀ k, k < i → ∀ x, ops[k]? = some x → waitsT ops 6 y k = true ∨ pairOk ops x y = true := by
    intro i y hy
    have hi : i < ops.size := by
      rcases Nat.lt_or_ge i ops.size with h | h
      · exact h
      · rw [Array.getElem?_eq_none h] at hy; simp at hy
    have := List.all_eq_true.1 hok i (by simpa using hi)
    rw [hy] at this
    simp only [Bool.and_eq_true] at this
    refine ⟨fun e he hb => ?_, fun k hk x hx => ?_⟩
    · have h1 := Array.all_eq_true.1 this.1
      obtain ⟨m, hm, rfl⟩ := Array.mem_iff_getElem.1 he
      have := h1 m hm
      simpa [hb] using this
    · have := List.all_eq_true.1 this.2 k (by simpa using hk)
      rw [hx] at this
      simp only [Bool.or_eq_true] at this
      rcases this with (h | h) | h
      · exact .inl (by simp only [waitsT, h, Bool.true_or])
      · exact .inr h
      · exact .inl h
  have ready_nil : ∀ listed : Array Bool, listed.size = ops.size → Region.ready .any ops listed = [] → left ops.size listed = [] := by
    intro listed hs hr
    cases hl : left ops.size listed with
    | nil => rfl
    | cons i rest =>
      exfalso
      have hmem : i ∈ left ops.size listed := by rw [hl]; simp
      have hi := List.mem_filter.1 hmem
      have hlt : i < ops.size := by simpa using hi.1
      have hsmall : ∀ k, k < i → listed.getD k true = true := by
        intro k hk
        cases hk' : listed.getD k true with
        | true => rfl
        | false =>
          exfalso
          have hkm : k ∈ left ops.size listed := List.mem_filter.2 ⟨by simp; omega, by simp [hk']⟩
          have hsorted : (left ops.size listed).Pairwise (· < ·) := (List.pairwise_lt_range).filter _
          rw [hl] at hsorted hkm
          rcases List.mem_cons.1 hkm with rfl | h
          · omega
          · have := (List.pairwise_cons.1 hsorted).1 k h
            omega
      have : i ∈ Region.ready .any ops listed := by
        refine List.mem_filter.2 ⟨by simpa using hlt, ?_⟩
        rw [Array.getElem?_eq_getElem hlt]
        simp only [Option.map_some, Option.getD_some, Bool.and_eq_true]
        refine ⟨hi.2, Array.all_eq_true.2 (fun m hm => ?_)⟩
        cases hb : Region.binds .any (ops[i]).after[m] with
        | false => simp
        | true =>
          have h1 := (hok' i ops[i] (Array.getElem?_eq_getElem hlt)).1 _ (Array.getElem_mem hm) hb
          have h2 := hsmall _ h1
          have h3 : listed.getD ((ops[i]).after[m]).on false = true := by
            rw [Array.getD_eq_getD_getElem?, Array.getElem?_eq_getElem (by omega)] at h2 ⊢
            simpa using h2
          simp [h3]
      rw [hr] at this
      simp at this
  intro fuel
  induction fuel with
  | zero =>
    intro listed s j a w hs hcl hf hrun ha hq
    have hl : left ops.size listed = [] := by simpa using hf
    rw [hl] at hrun
    simp only [RunD] at hrun; subst hrun
    refine ⟨?_, hq j a w ha (Nx.refl _ _ _)⟩
    cases hr : Region.ready .any ops listed with
    | nil => rfl
    | cons i rest =>
      exfalso
      have hm : i ∈ Region.ready .any ops listed := by rw [hr]; simp
      have hm := List.mem_filter.1 hm
      simp only [Bool.and_eq_true] at hm
      have : i ∈ left ops.size listed := List.mem_filter.2 ⟨hm.1, hm.2.1⟩
      rw [hl] at this; simp at this
  | succ fuel ih =>
    intro listed s j a w hs hcl hf hrun ha hq
    refine ⟨fun hr => ?_, fun i hi => ?_⟩
    · rw [ready_nil listed hs hr] at hrun
      simp only [RunD] at hrun; subst hrun
      exact hq j a w ha (Nx.refl _ _ _)
    · have hm := List.mem_filter.1 hi
      simp only [Bool.and_eq_true] at hm
      have hlt : i < ops.size := by simpa using hm.1
      have hno : listed.getD i true = false := by simpa using hm.2.1
      have hy : ops[i]? = some ops[i] := Array.getElem?_eq_getElem hlt
      have hdir : ∀ e ∈ (ops[i]).after, Region.binds .any e = true → listed.getD e.on false = true := by
        intro e he hb
        have hall := hm.2.2
        rw [hy] at hall
        simp only [Option.map_some, Option.getD_some] at hall
        obtain ⟨m, hm', rfl⟩ := Array.mem_iff_getElem.1 he
        have := Array.all_eq_true.1 hall m hm'
        rw [hb] at this
        simpa only [Bool.not_true, Bool.false_or] using this
      have hset : ∀ m, listed.getD m false = true → (listed.setIfInBounds i true).getD m false = true := by
        intro m h
        by_cases hmi : m = i
        · subst hmi
          simp [Array.getD_eq_getD_getElem?, hs, hlt]
        · rw [Array.getD_eq_getD_getElem?] at h ⊢
          rw [Array.getElem?_setIfInBounds_ne (Ne.symm hmi)]
          exact h
      have hcl' : ClosedL ops (listed.setIfInBounds i true) := by
        intro m y hmy hlm e he hb
        by_cases hmi : m = i
        · subst hmi
          rw [hy] at hmy
          simp at hmy
          subst hmy
          exact hset _ (hdir e he hb)
        · refine hset _ (hcl m y hmy ?_ e he hb)
          rw [Array.getD_eq_getD_getElem?] at hlm ⊢
          rwa [Array.getElem?_setIfInBounds_ne (Ne.symm hmi)] at hlm
      obtain ⟨l1, l2, e1, e2, e3⟩ := left_split hs hlt hno
      rw [e1] at hrun
      have hfront := runD_front hy l1 l2 s s' (fun k hk x hx => by
        obtain ⟨hk1, hk2⟩ := e3 k hk
        refine ((hok' i _ hy).2 k hk1 x hx).resolve_left (fun hw => ?_)
        have := waitsT_listed hcl 6 _ hdir hw
        rw [Array.getD_eq_getD_getElem?, Array.getElem?_eq_getElem (by omega)] at this hk2
        simp at this hk2
        rw [this] at hk2; simp at hk2) hrun
      simp only [RunD] at hfront
      obtain ⟨y, s1, hy', hstep, hrest⟩ := hfront
      refine stepD_real hy' hstep ha (fun j' a' w' h1 h2 => ?_)
      refine ih (listed.setIfInBounds i true) s1 j' a' w' (by simpa using hs) hcl' ?_ (by rw [e2]; exact hrest) h1 (fun j'' a'' w'' g1 g2 => hq j'' a'' w'' g1 (h2.trans g2))
      rw [e2]
      rw [e1] at hf
      simp at hf ⊢
      omega

theorem SW.regionD {n : Nat} {id : Nat} {ops : Array Oper} {Q : Exit → St → Prop} {s : St} (hm : P.follows .mixedOrders = true) (hok : drawOk ops = true) (h : opsW P n true ops ops.toList s (Q .normal)) : SW P n (.region id ops true) Q s := by
  intro j a w ha
  obtain ⟨s', hrun, hQ⟩ := runD_of_opsW ops.toList 0 (fun k => by simp) s h
  have hd : SAll n j s a w.drew := ⟨ha.rel.drew, ha.slots.nx ha.rel (Nx.drew j s.H w), ha.size, ha.defers⟩
  refine wp_region_any hm ?_
  have hleft : left ops.size (Array.replicate ops.size false) = List.range' 0 ops.toList.length := by
    unfold left
    rw [← List.range_eq_range']
    simp only [Array.length_toList]
    apply List.filter_eq_self.2
    intro k hk
    simp at hk
    simp [Array.getD_eq_getD_getElem?, hk]
  refine wpAny_of_run hok s' ops.size _ s j a w.drew (by simp) (fun m y _ h => by simp [Array.getD_eq_getD_getElem?, Array.getElem?_replicate] at h; split at h <;> simp at h) (by rw [hleft]; simp) (by rw [hleft]; exact hrun) hd (fun j' a' w' h1 h2 => ⟨j', s', h1, (Nx.drew j s.H w).trans h2, hQ⟩)
end Go.Sh
