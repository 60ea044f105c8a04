/-
  Texts put together: ShP, AE1, AE2, DC1, DA8, AF2, AE3, AE4, M3, AF1, PF0, PV1, EFnPivots, LiftB. What each proves stands at its own head, with its conditions.
-/
import Derived.Test.YtgkicmckimgjjaaZFnPivots4

/-
  Regions that draw their order, further: operations that allocate, in more orders than one.
-/
namespace Go.Sh
set_option linter.unusedSimpArgs false
set_option linter.unusedVariables false
open Go Go.RowKit
variable {P : Program}

theorem legS_uniq {ops : Array Oper} {S : Heap → Prop} {d : Bool} {o : Oper} {σ : Slots} {H : Heap} {Q Q' : SV → Heap → Prop} (hu : userCall o.op = none) (hS : S H) (h : legS P ops S d o σ H Q) (h' : legS P ops S d o σ H Q') : ∀ r H1, Q r H1 ↔ Q' r H1 := by
  cases d with
  | true =>
    simp only [legS, if_true] at h h'
    rcases h.2 with ⟨g, a, h1, h2⟩ | ⟨g, h2⟩
    · rcases h'.2 with ⟨g', b, k1, k2⟩ | ⟨g', _⟩
      · have := (h1 H hS).symm.trans (k1 H hS)
        have e : a = b := by simpa using this
        intro r H1; rw [h2, k2, e]
      · rw [g] at g'; simp at g'
    · rcases h'.2 with ⟨g', _⟩ | ⟨g', k2⟩
      · rw [g] at g'; simp at g'
      · intro r H1; rw [h2, k2]
  | false =>
    simp only [legS, Bool.false_eq_true, if_false, leg, hu] at h h'
    rcases h.2 with ⟨g, a, Ha, h1, h2⟩ | ⟨g, h2⟩
    · rcases h'.2 with ⟨g', b, Hb, k1, k2⟩ | ⟨g', _⟩
      · have := h1.symm.trans k1
        simp only [Option.some.injEq, Prod.mk.injEq] at this
        intro r H1; rw [h2, k2, this.1, this.2]
      · rw [g] at g'; simp at g'
    · rcases h'.2 with ⟨g', _⟩ | ⟨g', k2⟩
      · rw [g] at g'; simp at g'
      · intro r H1; rw [h2, k2]
theorem stepS_fam {n : Nat} {ops : Array Oper} {S : Heap → Prop} {d : Bool} {o : Oper} {s : St} {ι : Type} {F : ι → Prop} {A : ι → St → Prop} (hu : userCall o.op = none) (hS : S s.H) {l0 : ι} (h0 : F l0) (h : ∀ l, F l → stepS P n ops S d o s (A l)) :
    stepS P n ops S d o s (fun s' => ∀ l, F l → A l s') := by
  obtain ⟨hd, Q, hl, hk⟩ := h l0 h0
  refine ⟨hd, Q, hl, fun r H' hq => ⟨(hk r H' hq).1, fun l hf => ?_⟩⟩
  obtain ⟨_, Q', hl', hk'⟩ := h l hf
  exact (hk' r H' ((legS_uniq hu hS hl hl' r H').1 hq)).2

def pOk (D : List Nat) (ops : Array Oper) (k i : Nat) : Bool := match ops[k]?, ops[i]? with
  | some x, some y => waitsT ops 6 y k || pairOkS D ops k i x y
  | _, _ => false
structure Fam (D : List Nat) (ops : Array Oper) (hv : Nat → Bool) (Ls : List (List Nat)) : Prop where
  edge : ∀ (i : Nat) (y : Oper), ops[i]? = some y → ∀ e ∈ y.after, Region.binds .any e = true → e.on < i
  user : ∀ (i : Nat) (y : Oper), ops[i]? = some y → userCall y.op = none
  nd : ∀ l ∈ Ls, l.Nodup
  bd : ∀ l ∈ Ls, ∀ i ∈ l, i < ops.size
  all : ∀ l ∈ Ls, ∀ i, i < ops.size → i ∈ l
  pw : ∀ l ∈ Ls, l.Pairwise (fun k i => (hv k = true ∧ hv i = true) ∨ pOk D ops k i = true)
  ext : ∀ l ∈ Ls, ∀ m i, i < ops.size → hv i = true → i ∉ (l.filter hv).take m → (∃ k, k < ops.size ∧ hv k = true ∧ k ∉ (l.filter hv).take m ∧ ∃ y : Oper, ops[i]? = some y ∧ waitsT ops 6 y k = true) ∨ ∃ l' ∈ Ls, ((l.filter hv).take m ++ [i]) <+: l'.filter hv

def unl (listed : Array Bool) (i : Nat) : Bool := !listed.getD i true
theorem unl_set {listed : Array Bool} {i : Nat} (hi : i < listed.size) (a : Nat) : unl (listed.setIfInBounds i true) a = (unl listed a && decide (a ≠ i)) := by
  unfold unl
  by_cases h : a = i
  · subst h; simp [Array.getD_eq_getD_getElem?, hi]
  · rw [Array.getD_eq_getD_getElem?, Array.getElem?_setIfInBounds_ne (Ne.symm h), ← Array.getD_eq_getD_getElem?]; simp [h]
theorem filter_set {listed : Array Bool} {i : Nat} (hi : i < listed.size) {l l1 l2 : List Nat} (hnd : l.Nodup) (h : l.filter (unl listed) = l1 ++ i :: l2) : l.filter (unl (listed.setIfInBounds i true)) = l1 ++ l2 ∧ i ∉ l1 ∧ i ∉ l2 := by
  have hn : (l1 ++ i :: l2).Nodup := by rw [← h]; exact hnd.filter _
  rw [List.nodup_append] at hn
  obtain ⟨_, n2, n3⟩ := hn
  have i1 : i ∉ l1 := fun hm => n3 i hm i (by simp) rfl
  have i2 : i ∉ l2 := (List.nodup_cons.1 n2).1
  refine ⟨?_, i1, i2⟩
  have e : (fun a => unl (listed.setIfInBounds i true) a) = fun a => (unl listed a && decide (a ≠ i)) := funext fun a => unl_set hi a
  have : l.filter (unl (listed.setIfInBounds i true)) = (l.filter (unl listed)).filter (fun a => decide (a ≠ i)) := by
    rw [List.filter_filter]
    congr 1
    funext a; rw [unl_set hi, Bool.and_comm]
  rw [this, h, List.filter_append, List.filter_cons]
  simp only [ne_eq, not_true_eq_false, decide_false, Bool.false_eq_true, if_false]
  rw [List.filter_eq_self.2 (fun a ha => by simp; rintro rfl; exact i1 ha), List.filter_eq_self.2 (fun a ha => by simp; rintro rfl; exact i2 ha)]
theorem left_nil_filter {n : Nat} {listed : Array Bool} (hs : listed.size = n) (h : left n listed = []) (l : List Nat) : l.filter (unl listed) = [] := by
  rw [List.filter_eq_nil_iff]
  intro a _
  by_cases ha : a < n
  · have : a ∉ left n listed := by rw [h]; simp
    intro hu
    exact this (List.mem_filter.2 ⟨by simpa using ha, hu⟩)
  · simp [unl, Array.getD_eq_getD_getElem?, Array.getElem?_eq_none (by omega : listed.size ≤ a)]

theorem wpAny_of_fam {n : Nat} {ops : Array Oper} {S : Heap → Prop} {D : List Nat} {Q : Exit → Act → World → Prop} {K : St → Prop} {hv : Nat → Bool} {Ls : List (List Nat)} (hok : Fam D ops hv Ls) : ∀ (fuel : Nat) (listed : Array Bool) (p : List Nat) (s : St) (j : JMap) (a : Act) (w : World), listed.size = ops.size → ClosedL ops listed →
    (left ops.size listed).length ≤ fuel → S s.H → (∃ l ∈ Ls, p <+: l.filter hv) → (∀ i, i < ops.size → hv i = true → (listed.getD i true = true ↔ i ∈ p)) →
    (∀ l, l ∈ Ls ∧ p <+: l.filter hv → opsS P n ops S D (l.filter (unl listed)) s K) → SAll n j s a w → (∀ j' s' a' w', SAll n j' s' a' w' → Nx j s.H w j' s'.H w' → K s' → Q .normal a' w') → wpAny P .any ops Q fuel listed a w := by
  have ready_nil : ∀ listed : Array Bool, listed.size = ops.size → Region.ready .any ops listed = [] → left ops.size listed = [] := by
    intro listed hs hr
    cases hl : left ops.size listed with
    | nil => rfl
    | cons i rest =>
      exfalso
      have hmem : i ∈ left ops.size listed := by rw [hl]; simp
      have hi := List.mem_filter.1 hmem
      have hlt : i < ops.size := by simpa using hi.1
      have hsmall : ∀ k, k < i → listed.getD k true = true := by
        intro k hk
        cases hk' : listed.getD k true with
        | true => rfl
        | false =>
          exfalso
          have hkm : k ∈ left ops.size listed := List.mem_filter.2 ⟨by simp; omega, by simp [hk']⟩
          have hsorted : (left ops.size listed).Pairwise (· < ·) := (List.pairwise_lt_range).filter _
          rw [hl] at hsorted hkm
          rcases List.mem_cons.1 hkm with rfl | h
          · omega
          · have := (List.pairwise_cons.1 hsorted).1 k h
            omega
      have : i ∈ Region.ready .any ops listed := by
        refine List.mem_filter.2 ⟨by simpa using hlt, ?_⟩
        rw [Array.getElem?_eq_getElem hlt]
        simp only [Option.map_some, Option.getD_some, Bool.and_eq_true]
        refine ⟨hi.2, Array.all_eq_true.2 (fun m hm => ?_)⟩
        cases hb : Region.binds .any (ops[i]).after[m] with
        | false => simp
        | true =>
          have h1 := hok.edge i ops[i] (Array.getElem?_eq_getElem hlt) _ (Array.getElem_mem hm) hb
          have h2 := hsmall _ h1
          have h3 : listed.getD ((ops[i]).after[m]).on false = true := by
            rw [Array.getD_eq_getD_getElem?, Array.getElem?_eq_getElem (by omega)] at h2 ⊢
            simpa using h2
          simp [h3]
      rw [hr] at this
      simp at this
  intro fuel
  induction fuel with
  | zero =>
    intro listed p s j a w hs hcl hf hS hne hp hrun ha hq
    have hl : left ops.size listed = [] := by simpa using hf
    obtain ⟨l, hlm, hlp⟩ := hne
    have hrun := hrun l ⟨hlm, hlp⟩
    rw [left_nil_filter hs hl] at hrun
    simp only [opsS] at hrun
    refine ⟨?_, hq j s a w ha (Nx.refl _ _ _) hrun⟩
    cases hr : Region.ready .any ops listed with
    | nil => rfl
    | cons i rest =>
      exfalso
      have hm : i ∈ Region.ready .any ops listed := by rw [hr]; simp
      have hm := List.mem_filter.1 hm
      simp only [Bool.and_eq_true] at hm
      have : i ∈ left ops.size listed := List.mem_filter.2 ⟨hm.1, hm.2.1⟩
      rw [hl] at this; simp at this
  | succ fuel ih =>
    intro listed p s j a w hs hcl hf hS hne hp hrun ha hq
    refine ⟨fun hr => ?_, fun i hi => ?_⟩
    · obtain ⟨l, hlm, hlp⟩ := hne
      have hrun := hrun l ⟨hlm, hlp⟩
      rw [left_nil_filter hs (ready_nil listed hs hr)] at hrun
      simp only [opsS] at hrun
      exact hq j s a w ha (Nx.refl _ _ _) hrun
    · have hm := List.mem_filter.1 hi
      simp only [Bool.and_eq_true] at hm
      have hlt : i < ops.size := by simpa using hm.1
      have hno : listed.getD i true = false := by simpa using hm.2.1
      have hy : ops[i]? = some ops[i] := Array.getElem?_eq_getElem hlt
      have hu := hok.user i _ hy
      have hdir : ∀ e ∈ (ops[i]).after, Region.binds .any e = true → listed.getD e.on false = true := by
        intro e he hb
        have hall := hm.2.2
        rw [hy] at hall
        simp only [Option.map_some, Option.getD_some] at hall
        obtain ⟨m, hm', rfl⟩ := Array.mem_iff_getElem.1 he
        have := Array.all_eq_true.1 hall m hm'
        rw [hb] at this
        simpa only [Bool.not_true, Bool.false_or] using this
      have hset : ∀ m, listed.getD m false = true → (listed.setIfInBounds i true).getD m false = true := by
        intro m h
        by_cases hmi : m = i
        · subst hmi
          simp [Array.getD_eq_getD_getElem?, hs, hlt]
        · rw [Array.getD_eq_getD_getElem?] at h ⊢
          rw [Array.getElem?_setIfInBounds_ne (Ne.symm hmi)]
          exact h
      have hcl' : ClosedL ops (listed.setIfInBounds i true) := by
        intro m y hmy hlm e he hb
        by_cases hmi : m = i
        · subst hmi
          rw [hy] at hmy
          simp at hmy
          subst hmy
          exact hset _ (hdir e he hb)
        · refine hset _ (hcl m y hmy ?_ e he hb)
          rw [Array.getD_eq_getD_getElem?] at hlm ⊢
          rwa [Array.getElem?_setIfInBounds_ne (Ne.symm hmi)] at hlm
      have hwait : ∀ k, k < ops.size → unl listed k = true → waitsT ops 6 ops[i] k = true → False := fun k hk hul hw => by
        have := waitsT_listed hcl 6 _ hdir hw
        simp only [unl, Bool.not_eq_true'] at hul
        rw [Array.getD_eq_getD_getElem?, Array.getElem?_eq_getElem (by omega)] at this hul
        simp at this hul
        rw [this] at hul; simp at hul
      have hsz : i < listed.size := by omega
      -- the lists that go on
      obtain ⟨p', hp', hne', hmov⟩ : ∃ p', (∀ k, k < ops.size → hv k = true → ((listed.setIfInBounds i true).getD k true = true ↔ k ∈ p')) ∧ (∃ l ∈ Ls, p' <+: l.filter hv) ∧
          ∀ l, l ∈ Ls ∧ p' <+: l.filter hv → (p <+: l.filter hv) ∧ ∀ l1 l2, l.filter (unl listed) = l1 ++ i :: l2 → hv i = true → ∀ k ∈ l1, hv k = false := by
        have hlk : ∀ k, (listed.setIfInBounds i true).getD k true = true ↔ (listed.getD k true = true ∨ k = i) := fun k => by
          have := unl_set hsz k
          simp only [unl] at this
          by_cases e : k = i
          · subst e; simp at this; simp [this]
          · simp only [e, ne_eq, not_false_eq_true, decide_true, Bool.and_true, Bool.not_inj_iff] at this
            rw [this]; simp [e]
        by_cases hvi : hv i = true
        · have hip : i ∉ p := fun h => by
            have := (hp i hlt hvi).2 h
            rw [hno] at this; cases this
          obtain ⟨l, hlm, hlp⟩ := hne
          have hpt : (l.filter hv).take p.length = p := (List.prefix_iff_eq_take.1 hlp).symm
          have hx := hok.ext l hlm p.length i hlt hvi (by rw [hpt]; exact hip)
          rw [hpt] at hx
          rcases hx with ⟨k, hk1, hk2, hk3, y, hy', hk4⟩ | ⟨l', hl', hpre⟩
          · exfalso
            rw [hy] at hy'
            simp at hy'; subst hy'
            refine hwait k hk1 ?_ hk4
            have : ¬ listed.getD k true = true := fun h => hk3 ((hp k hk1 hk2).1 h)
            simp only [unl]; simpa using this
          · refine ⟨p ++ [i], fun k hk hvk => ?_, ⟨l', hl', hpre⟩, fun l ⟨hl, hpl⟩ => ⟨(List.prefix_append p [i]).trans hpl, fun l1 l2 he _ k hk => ?_⟩⟩
            · rw [hlk, List.mem_append, List.mem_singleton, hp k hk hvk]
            · cases hvk : hv k with
              | false => rfl
              | true =>
                exfalso
                obtain ⟨q, hq'⟩ := hpl
                have e1 : (l.filter (unl listed)).filter hv = (l.filter hv).filter (unl listed) := by
                  rw [List.filter_filter, List.filter_filter]; congr 1; funext a; rw [Bool.and_comm]
                obtain ⟨_, i1, i2⟩ := filter_set hsz (hok.nd l hl) he
                have hpn : p.filter (unl listed) = [] := by
                  rw [List.filter_eq_nil_iff]
                  intro b hb
                  have hbl : b ∈ l.filter hv := by rw [← hq']; simp [hb]
                  by_cases hbs : b < ops.size
                  · have := (hp b hbs (List.mem_filter.1 hbl).2).2 hb
                    simp only [unl]; rw [this]; simp
                  · simp [unl, Array.getD_eq_getD_getElem?, Array.getElem?_eq_none (by omega : listed.size ≤ b)]
                have hui : unl listed i = true := by simp [unl, hno]
                rw [he, ← hq', List.filter_append, List.filter_append, List.filter_append, hpn, List.filter_cons, List.filter_cons, if_pos hvi, if_pos hui] at e1
                simp only [List.filter_nil, List.nil_append, List.cons_append] at e1
                have hkl : k ∈ l1.filter hv := List.mem_filter.2 ⟨hk, hvk⟩
                cases hc : l1.filter hv with
                | nil => rw [hc] at hkl; simp at hkl
                | cons b bs =>
                  rw [hc] at e1
                  simp only [List.cons_append, List.cons.injEq] at e1
                  have : b ∈ l1.filter hv := by rw [hc]; simp
                  rw [e1.1] at this
                  exact i1 (List.mem_filter.1 this).1
        · refine ⟨p, fun k hk hvk => ?_, hne, fun l ⟨hl, hpl⟩ => ⟨hpl, fun l1 l2 he h => absurd h hvi⟩⟩
          rw [hlk, ← hp k hk hvk]
          constructor
          · rintro (h | rfl)
            · exact h
            · exact absurd hvk hvi
          · exact .inl
      have hstep : ∀ l, l ∈ Ls ∧ p' <+: l.filter hv → stepS P n ops S (hasD D i) ops[i] s (fun s' => opsS P n ops S D (l.filter (unl (listed.setIfInBounds i true))) s' K) := by
        intro l hl
        obtain ⟨hpl, hm2⟩ := hmov l hl
        have hr := hrun l ⟨hl.1, hpl⟩
        have him : i ∈ l.filter (unl listed) := List.mem_filter.2 ⟨hok.all l hl.1 i hlt, by simp [unl, hno]⟩
        obtain ⟨l1, l2, he⟩ := List.append_of_mem him
        obtain ⟨e2, i1, i2⟩ := filter_set hsz (hok.nd l hl.1) he
        have hpw : (l1 ++ i :: l2).Pairwise (fun k i => (hv k = true ∧ hv i = true) ∨ pOk D ops k i = true) := by rw [← he]; exact (hok.pw l hl.1).filter _
        rw [he] at hr
        have hfront := opsS_front hy l1 l2 s hS (fun k hk x hx => by
          have h1 := (List.pairwise_append.1 hpw).2.2 k hk i (by simp)
          have hku : unl listed k = true := by
            have : k ∈ l.filter (unl listed) := by rw [he]; simp [hk]
            exact (List.mem_filter.1 this).2
          have hks : k < ops.size := by
            rcases Nat.lt_or_ge k ops.size with h | h
            · exact h
            · rw [Array.getElem?_eq_none h] at hx; simp at hx
          rcases h1 with ⟨h1, h2⟩ | h1
          · have := hm2 l1 l2 he h2 k hk
            rw [h1] at this; cases this
          · unfold pOk at h1
            rw [hx, hy] at h1
            simp only [Bool.or_eq_true] at h1
            rcases h1 with h1 | h1
            · exact (hwait k hks hku h1).elim
            · exact h1) hr
        simp only [opsS] at hfront
        obtain ⟨y, hy', hst⟩ := hfront
        rw [hy] at hy'
        simp at hy'; subst hy'
        rw [e2]
        exact hst
      obtain ⟨l0, hl0, hl0p⟩ := hne'
      have hall := stepS_fam (F := fun l => l ∈ Ls ∧ p' <+: l.filter hv) (A := fun l s' => opsS P n ops S D (l.filter (unl (listed.setIfInBounds i true))) s' K) hu hS (l0 := l0) ⟨hl0, hl0p⟩ hstep
      refine stepS_real hS hy hall ha (fun j' s1 a' w' h1 h2 hS1 hrest => ?_)
      refine ih (listed.setIfInBounds i true) p' s1 j' a' w' (by simpa using hs) hcl' ?_ hS1 ⟨l0, hl0, hl0p⟩ hp' hrest h1 (fun j'' s'' a'' w'' g1 g2 g3 => hq j'' s'' a'' w'' g1 (h2.trans g2) g3)
      obtain ⟨l1, l2, e1, e2, e3⟩ := left_split hs hlt hno
      rw [e2]
      rw [e1] at hf
      simp at hf ⊢
      omega

def pwB (R : Nat → Nat → Bool) : List Nat → Bool
  | [] => true
  | k :: l => l.all (R k) && pwB R l
theorem pwB_of {R : Nat → Nat → Bool} : ∀ {l : List Nat}, pwB R l = true → l.Pairwise (fun a b => R a b = true)
  | [], _ => .nil
  | k :: l, h => by
    simp only [pwB, Bool.and_eq_true, List.all_eq_true] at h
    exact .cons h.1 (pwB_of h.2)
def wt (ops : Array Oper) (i k : Nat) : Bool := match ops[i]? with | some y => waitsT ops 6 y k | none => false
/-- Orders enough: all orders of the named operations that can come, one list for each; all others change places. -/
def famOk (D : List Nat) (ops : Array Oper) (hv : List Nat) (Ls : List (List Nat)) : Bool :=
  (List.range ops.size).all (fun i => match ops[i]? with | some y => (y.after.all fun e => !Region.binds .any e || decide (e.on < i)) && (userCall y.op).isNone | none => true) &&
  Ls.all (fun l => pwB (fun a b => decide (a ≠ b)) l && l.all (fun i => decide (i < ops.size)) && (List.range ops.size).all (fun i => l.contains i) && pwB (fun k i => (hv.contains k && hv.contains i) || pOk D ops k i) l) &&
  Ls.all (fun l => (List.range ((l.filter hv.contains).length + 1)).all fun m => hv.all fun i => ((l.filter hv.contains).take m).contains i || hv.any (fun k => decide (k < ops.size) && (!((l.filter hv.contains).take m).contains k && wt ops i k)) || Ls.any fun l' => (((l.filter hv.contains).take m) ++ [i]).isPrefixOf (l'.filter hv.contains))
theorem fam_of {D : List Nat} {ops : Array Oper} {hv : List Nat} {Ls : List (List Nat)} (h : famOk D ops hv Ls = true) : Fam D ops hv.contains Ls := by
  simp only [famOk, Bool.and_eq_true] at h
  obtain ⟨⟨h1, h2⟩, h3⟩ := h
  have one : ∀ (i : Nat) (y : Oper), ops[i]? = some y → (∀ e ∈ y.after, Region.binds .any e = true → e.on < i) ∧ userCall y.op = none := by
    intro i y hy
    have hi : i < ops.size := by
      rcases Nat.lt_or_ge i ops.size with h | h
      · exact h
      · rw [Array.getElem?_eq_none h] at hy; simp at hy
    have := List.all_eq_true.1 h1 i (by simpa using hi)
    rw [hy] at this
    simp only [Bool.and_eq_true] at this
    refine ⟨fun e he hb => ?_, by simpa using this.2⟩
    have h1 := Array.all_eq_true.1 this.1
    obtain ⟨m, hm, rfl⟩ := Array.mem_iff_getElem.1 he
    have := h1 m hm
    simpa [hb] using this
  have two : ∀ l ∈ Ls, _ := List.all_eq_true.1 h2
  refine ⟨fun i y hy => (one i y hy).1, fun i y hy => (one i y hy).2, fun l hl => ?_, fun l hl i hi => ?_, fun l hl i hi => ?_, fun l hl => ?_, fun l hl m i hi hvi hnot => ?_⟩
  · have := two l hl
    simp only [Bool.and_eq_true] at this
    exact (pwB_of this.1.1.1).imp (fun h => by simpa using h)
  · have := two l hl
    simp only [Bool.and_eq_true] at this
    have := List.all_eq_true.1 this.1.1.2 i hi
    simpa using this
  · have := two l hl
    simp only [Bool.and_eq_true] at this
    have := List.all_eq_true.1 this.1.2 i (by simpa using hi)
    simpa using this
  · have := two l hl
    simp only [Bool.and_eq_true] at this
    exact (pwB_of this.2).imp (fun h => by simpa only [Bool.or_eq_true, Bool.and_eq_true] using h)
  · have key : ∃ m', (l.filter hv.contains).take m = (l.filter hv.contains).take m' ∧ m' < (l.filter hv.contains).length + 1 := by
      rcases Nat.lt_or_ge m ((l.filter hv.contains).length + 1) with h | h
      · exact ⟨m, rfl, h⟩
      · exact ⟨(l.filter hv.contains).length, by rw [List.take_of_length_le (by omega), List.take_length], by omega⟩
    obtain ⟨m', e, hm'⟩ := key
    rw [e] at hnot ⊢
    have := List.all_eq_true.1 h3 l hl
    have := List.all_eq_true.1 this m' (by simpa using hm')
    have := List.all_eq_true.1 this i (by simpa using hvi)
    simp only [Bool.or_eq_true] at this
    rcases this with (this | this) | this
    · exact absurd (by simpa using this) hnot
    · obtain ⟨k, hk, hk2⟩ := List.any_eq_true.1 this
      simp only [Bool.and_eq_true, decide_eq_true_eq, Bool.not_eq_true'] at hk2
      obtain ⟨k1, k2, k3⟩ := hk2
      refine .inl ⟨k, k1, by simpa using hk, fun hm => ?_, ?_⟩
      · rw [List.contains_iff_mem.2 hm] at k2; cases k2
      · unfold wt at k3
        split at k3
        · exact ⟨_, by assumption, k3⟩
        · cases k3
    · obtain ⟨l', hl', hp⟩ := List.any_eq_true.1 this
      exact .inr ⟨l', hl', List.isPrefixOf_iff_prefix.1 hp⟩

/-! ### As one steps through it -/
def atN : List Oper → Nat → (Oper → Prop) → Prop
  | [], _, _ => False
  | o :: _, 0, f => f o
  | _ :: l, k + 1, f => atN l k f
theorem atN_zero (o : Oper) (l : List Oper) (f : Oper → Prop) : atN (o :: l) 0 f = f o := rfl
theorem atN_succ (o : Oper) (l : List Oper) (k : Nat) (f : Oper → Prop) : atN (o :: l) (k + 1) f = atN l k f := rfl
theorem atN_of : ∀ {l : List Oper} {k : Nat} {f : Oper → Prop}, atN l k f → ∃ o, l[k]? = some o ∧ f o
  | [], _, _, h => h.elim
  | o :: _, 0, _, h => ⟨o, rfl, h⟩
  | _ :: l, k + 1, _, h => by
    obtain ⟨o, h1, h2⟩ := atN_of (l := l) h
    exact ⟨o, by simpa using h1, h2⟩
def opsL (P : Program) (n : Nat) (l : List Oper) (S : Heap → Prop) (D : List Nat) : List Nat → St → (St → Prop) → Prop
  | [], s, K => K s
  | i :: is, s, K => atN l i (fun o => opsNS P n l.toArray S D i [o] s (fun s' => opsL P n l S D is s' K))
theorem opsL_nil (n : Nat) (l : List Oper) (S : Heap → Prop) (D : List Nat) (s : St) (K : St → Prop) : opsL P n l S D [] s K = K s := rfl
theorem opsL_cons (n : Nat) (l : List Oper) (S : Heap → Prop) (D : List Nat) (i : Nat) (is : List Nat) (s : St) (K : St → Prop) : opsL P n l S D (i :: is) s K = atN l i (fun o => opsNS P n l.toArray S D i [o] s (fun s' => opsL P n l S D is s' K)) := rfl
theorem opsNS_one {n : Nat} {ops : Array Oper} {S : Heap → Prop} {D : List Nat} {K : St → Prop} {o : Oper} {i : Nat} {s : St} (hS : S s.H) (h : opsNS P n ops S D i [o] s K) : stepS P n ops S (hasD D i) o s K := by
  simp only [opsNS] at h
  split at h
  · rename_i hg
    split at h
    · rename_i hd
      split at h
      · rename_i t x hop
        obtain ⟨hdk, r, h1, h2⟩ := h
        rw [hd]
        refine ⟨hdk, fun r1 H1 => r1 = r ∧ H1 = s.H, ?_, ?_⟩
        · simp only [legS, if_true]
          refine ⟨⟨r, s.H, rfl, rfl⟩, .inl ⟨by simp [gst, hg], r, fun H2 h3 => ?_, fun _ _ => Iff.rfl⟩⟩
          have h4 : sload P H2 t (sval s.σ x) = some r := h1 H2 h3
          rw [hop]
          simp only [sop, h4]
        · rintro _ _ ⟨rfl, rfl⟩
          exact ⟨hS, h2⟩
      · rename_i t x lo hi mx hop
        obtain ⟨hdk, r, h1, h2⟩ := h
        rw [hd]
        refine ⟨hdk, fun r1 H1 => r1 = r ∧ H1 = s.H, ?_, ?_⟩
        · simp only [legS, if_true]
          refine ⟨⟨r, s.H, rfl, rfl⟩, .inl ⟨by simp [gst, hg], r, fun H2 h3 => ?_, fun _ _ => Iff.rfl⟩⟩
          have h4 : sslice P H2 t (sval s.σ x) (lo.map (sval s.σ)) (hi.map (sval s.σ)) (mx.map (sval s.σ)) = some r := h1 H2 h3
          rw [hop]
          simp only [sop, h4]
        · rintro _ _ ⟨rfl, rfl⟩
          exact ⟨hS, h2⟩
      · exact h.elim
    · rename_i hd
      have hd : hasD D i = false := by simpa using hd
      rw [hd]
      split at h
      · exact stepN_S (stepN_mono (opN_leg (by simp [gst, hg]) h) fun s' g => ⟨g.1, g.2⟩)
      · rename_i hh
        have hh : heavy o.op = false := by simpa using hh
        refine stepN_S (stepN_mono (stepN_keep hh (opN_leg (by simp [gst, hg]) h)) fun s' g => ?_)
        have hS' : S s'.H := by rw [g.1]; exact hS
        exact ⟨hS', g.2⟩
  · exact h.elim
theorem opsS_of_opsL {n : Nat} {l : List Oper} {S : Heap → Prop} {D : List Nat} {K : St → Prop} : ∀ (is : List Nat) (s : St), S s.H → opsL P n l S D is s K → opsS P n l.toArray S D is s K
  | [], s, _, h => h
  | i :: is, s, hS, h => by
    rw [opsL_cons] at h
    obtain ⟨o, h1, h2⟩ := atN_of h
    exact ⟨o, by simpa using h1, stepS_mono (opsNS_one hS h2) fun s' hS' g => opsS_of_opsL is s' hS' g⟩
def opsLs (P : Program) (n : Nat) (l : List Oper) (S : Heap → Prop) (D : List Nat) : List (List Nat) → St → (St → Prop) → Prop
  | [], _, _ => True
  | is :: Ls, s, K => opsL P n l S D is s K ∧ opsLs P n l S D Ls s K
theorem opsLs_mem {n : Nat} {l : List Oper} {S : Heap → Prop} {D : List Nat} {s : St} {K : St → Prop} : ∀ {Ls : List (List Nat)}, opsLs P n l S D Ls s K → ∀ is ∈ Ls, opsL P n l S D is s K
  | [], _, is, h => by simp at h
  | is0 :: Ls, h, is, hm => by
    rcases List.mem_cons.1 hm with rfl | hm
    · exact h.1
    · exact opsLs_mem h.2 is hm
/-- A region that draws its order, operations that allocate among them: D the reads of what nothing changes, hv the operations whose orders matter, Ls one order of all for each order of these. -/
theorem SW.regionP {n : Nat} {id : Nat} {l : List Oper} {Q : Exit → St → Prop} {s : St} (S : Heap → Prop) (D hv : List Nat) (l0 : List Nat) (Ls : List (List Nat)) (hm : P.follows .mixedOrders = true) (hok : famOk D l.toArray hv (l0 :: Ls) = true) (hS : S s.H) (h : opsLs P n l S D (l0 :: Ls) s (Q .normal)) : SW P n (.region id l.toArray true) Q s := by
  intro j a w ha
  have hd : SAll n j s a w.drew := ⟨ha.rel.drew, ha.slots.nx ha.rel (Nx.drew j s.H w), ha.size, ha.defers⟩
  refine wp_region_any hm ?_
  have hleft : left l.toArray.size (Array.replicate l.toArray.size false) = List.range' 0 l.length := by
    unfold left
    rw [← List.range_eq_range']
    simp only [List.size_toArray]
    apply List.filter_eq_self.2
    intro k hk
    simp at hk
    simp [Array.getD_eq_getD_getElem?, hk]
  have hfam := fam_of hok
  refine wpAny_of_fam (K := Q .normal) hfam l.toArray.size _ [] s j a w.drew (by simp) (fun m y _ h => by simp [Array.getD_eq_getD_getElem?, Array.getElem?_replicate] at h; split at h <;> simp at h) (by rw [hleft]; simp) hS ⟨l0, by simp, List.nil_prefix⟩ ?_ ?_ hd (fun j' s' a' w' h1 h2 h3 => ⟨j', s', h1, (Nx.drew j s.H w).trans h2, h3⟩)
  · intro i hi _
    simp at hi
    simp [Array.getD_eq_getD_getElem?, hi]
  · rintro is ⟨hm, _⟩
    have hr := opsS_of_opsL (P := P) is s hS (opsLs_mem h is hm)
    have e : is.filter (unl (Array.replicate l.toArray.size false)) = is := List.filter_eq_self.2 fun k hk => by
      have := hfam.bd is hm k hk
      simp at this
      simp [unl, Array.getD_eq_getD_getElem?, this]
    rw [e]; exact hr
theorem LoadS.rptr {t : TypeId} {cs : List SV} {off : Nat} {S : Heap → Prop} {k : SV → Prop} (h : @bindV (sload P (hp [] 0) t (.rptr cs off)) ⟨k⟩) : @LoadS P t (.rptr cs off) ⟨S, k⟩ := by
  cases hs : sload P (hp [] 0) t (.rptr cs off) with
  | none => rw [hs] at h; exact h.elim
  | some r => rw [hs] at h; exact ⟨r, fun H2 _ => by rw [← hs]; rfl, h⟩
theorem SliceS.own {t : TypeId} {b off m cap sz : Nat} {ex : Bool} {lo hi mx : Option SV} {S : Heap → Prop} {k : SV → Prop} (h : @bindV (sslice P (hp [] 0) t (.own b off m cap sz ex) lo hi mx) ⟨k⟩) : @SliceS P t (.own b off m cap sz ex) lo hi mx ⟨S, k⟩ := by
  cases hs : sslice P (hp [] 0) t (.own b off m cap sz ex) lo hi mx with
  | none => rw [hs] at h; exact h.elim
  | some r => rw [hs] at h; exact ⟨r, fun H2 _ => by rw [← hs]; rfl, h⟩
attribute [go_sem ↓] opsL_nil opsL_cons atN_zero atN_succ
end Go.Sh

/-
  The order by degrees: plain.
-/
namespace Go.Sh
set_option linter.unusedSimpArgs false
set_option linter.unusedVariables false
open Go Go.Proofs

/-- The sum of the first k weights of item i that are positive. -/
def dgTo (M : List (List Int)) (i : Nat) : Nat → Int
  | 0 => 0
  | k + 1 => dgTo M i k + (if mat M i k < 0 then 0 else mat M i k)
def dg (M : List (List Int)) (i : Nat) : Int := dgTo M i M.length
/-- Where an item with degree d goes, seen from place p on downwards. -/
def down (M : List (List Int)) (O : List Nat) (d : Int) : Nat → Nat
  | 0 => 0
  | p + 1 => if dg M (O.getD p 0) < d then down M O d p else p + 1
def dOrd (M : List (List Int)) : Nat → List Nat
  | 0 => []
  | i + 1 => (dOrd M i).take (down M (dOrd M i) (dg M i) (dOrd M i).length) ++ i :: (dOrd M i).drop (down M (dOrd M i) (dg M i) (dOrd M i).length)
theorem down_le (M : List (List Int)) (O : List Nat) (d : Int) : ∀ p, down M O d p ≤ p
  | 0 => Nat.le_refl _
  | p + 1 => by
    have := down_le M O d p
    rw [down]; split <;> omega
theorem dOrd_length (M : List (List Int)) : ∀ i, (dOrd M i).length = i
  | 0 => rfl
  | i + 1 => by
    have ih := dOrd_length M i
    have := down_le M (dOrd M i) (dg M i) (dOrd M i).length
    rw [dOrd]; simp; omega
theorem dOrd_lt (M : List (List Int)) : ∀ i, ∀ x ∈ dOrd M i, x < i
  | 0, x, h => by simp [dOrd] at h
  | i + 1, x, h => by
    have ih := dOrd_lt M i
    rw [dOrd] at h
    simp only [List.mem_append, List.mem_cons] at h
    rcases h with h | rfl | h
    · have := ih x (List.mem_of_mem_take h); omega
    · omega
    · have := ih x (List.mem_of_mem_drop h); omega
theorem dgTo_r {M : List (List Int)} (hw : WM M) {i : Nat} (hi : i < M.length) : ∀ k, k ≤ M.length → 0 ≤ dgTo M i k ∧ dgTo M i k ≤ 1000 * k
  | 0, _ => by simp [dgTo]
  | k + 1, hk => by
    have ih := dgTo_r hw hi k (by omega)
    have := (hw.2.2.1 i k hi (by omega)).1
    rw [dgTo]
    split <;> omega
end Go.Sh

/-
  The order by degrees: of the reference.
-/
namespace Go.Sh
set_option linter.unusedSimpArgs false
set_option linter.unusedVariables false
open Go Go.Proofs

/-- The order, and the degrees so far. -/
def oI (M : List (List Int)) (i : Nat) : List Int := (dOrd M i).map fun x : Nat => (x : Int)
def dgs (M : List (List Int)) (i : Nat) : List Int := (List.range i).map (dg M)
theorem oI_len (M : List (List Int)) (i : Nat) : (oI M i).length = i := by simp [oI, dOrd_length]
theorem dgs_len (M : List (List Int)) (i : Nat) : (dgs M i).length = i := by simp [dgs]
theorem dgs_succ (M : List (List Int)) (i : Nat) : dgs M (i + 1) = dgs M i ++ [dg M i] := by simp [dgs, List.range_succ]
theorem oI_get (M : List (List Int)) {i p : Nat} (h : p < i) : (oI M i).getD p 0 = (((dOrd M i).getD p 0 : Nat) : Int) ∧ (dOrd M i).getD p 0 < i := by
  have hl : p < (dOrd M i).length := by rw [dOrd_length]; exact h
  constructor
  · simp [oI, hl]
  · have := dOrd_lt M i ((dOrd M i)[p]) (List.getElem_mem hl)
    simpa [hl] using this
theorem dgs_get (M : List (List Int)) {i x : Nat} (h : x < i) : (dgs M i).getD x 0 = dg M x := by simp [dgs, h]
theorem oI_succ (M : List (List Int)) (i : Nat) : oI M (i + 1) = (oI M i).take (down M (dOrd M i) (dg M i) i) ++ (i : Int) :: (oI M i).drop (down M (dOrd M i) (dg M i) i) := by
  rw [oI, dOrd]
  simp only [dOrd_length, List.map_append, List.map_cons, List.map_take, List.map_drop, oI]
theorem rep_zero0 (zs : List SV) : rep zs 0 = [] := rfl
set_option maxRecDepth 20000 in
set_option maxHeartbeats 8000000 in
theorem Try.specDeg_f (M : List (List Int)) (hM : M.length ≤ 1048576) (hR : ∀ i, i < M.length → (mrow M i).length ≤ 1048576) (hw : WM M) : FCall Try.prog 25 [rr M] (FlatRes M.length 1 (ints (oI M M.length))) := by
  have w1 := Try.specIsWM_ok M hM hR
  rw [isWM_t hw] at w1
  have hn8 := hw.1
  refine FCall.of_body Try.func25 rfl (by kernel_rfl) (by simp [Try.ntmps25]) ?_
  refine SW.seqW ⟨ofL [(0, rr M)], hp [] 0⟩ ?_ ?_
  · refine SW_of_vc Try.mixed _ _ _ (by kernel_rfl) ?_
    simp (disch := omega) only [Try.ntmps25, Try.results25, go_sem, rr_eq, rep_zero0]
    exact Wk.of (by simp only [go_sem, ↓List.forall_mem_cons, List.not_mem_nil, false_implies, implies_true, and_true, true_and, and_self, ri_eq, Int.natCast_add, Int.cast_ofNat_Int, rr_eq]; try simp) rfl
  refine SW.seqW ⟨ofL [(0, rr M), (3, .own 0 0 0 0 1 false)], hp [(0, ⟨[], false⟩)] 1⟩ ?_ ?_
  · refine SW_of_vc Try.mixed _ _ _ (by kernel_rfl) ?_
    simp (disch := omega) only [Try.ntmps25, Try.results25, go_sem, rr_eq, rep_zero0]
    exact Wk.of (by simp only [go_sem, ↓List.forall_mem_cons, List.not_mem_nil, false_implies, implies_true, and_true, true_and, and_self, ri_eq, Int.natCast_add, Int.cast_ofNat_Int, rr_eq]; try simp) rfl
  refine SW.seqW ⟨ofL [(0, rr M), (3, .own 0 0 0 0 1 false)], hp [(0, ⟨[], false⟩)] 1⟩ ?_ ?_
  · refine SW_of_vc Try.mixed _ _ _ (by kernel_rfl) ?_
    simp (disch := omega) only [Try.ntmps25, Try.results25, go_sem, rr_eq, rep_zero0]
    refine w1.callV 0 (viewL_cons_of (view_row) viewL_nil_of) ?_
    simp (disch := omega) only [Try.ntmps25, Try.results25, go_sem, rr_eq, rep_zero0]
    exact Wk.of (by simp only [go_sem, ↓List.forall_mem_cons, List.not_mem_nil, false_implies, implies_true, and_true, true_and, and_self, ri_eq, Int.natCast_add, Int.cast_ofNat_Int, rr_eq]; try simp) rfl
  refine SW.seqW ⟨ofL [(0, rr M), (3, .own 0 0 0 0 1 false), (4, .own 1 0 0 0 1 false)], hp [(1, ⟨[], false⟩), (0, ⟨[], false⟩)] 2⟩ ?_ ?_
  · refine SW_of_vc Try.mixed _ _ _ (by kernel_rfl) ?_
    simp (disch := omega) only [Try.ntmps25, Try.results25, go_sem, rr_eq, rep_zero0]
    exact Wk.of (by simp only [go_sem, ↓List.forall_mem_cons, List.not_mem_nil, false_implies, implies_true, and_true, true_and, and_self, ri_eq, Int.natCast_add, Int.cast_ofNat_Int, rr_eq]; try simp) rfl
  refine SW.seqI (fun y : Nat × Nat => ⟨ofL [(3, .own y.1 0 M.length M.length 1 false)], hp [(y.1, ⟨ints (oI M M.length), false⟩)] y.2⟩) (fun _ => True) ?_ ?_
  · refine SW.seqW ⟨ofL [(0, rr M), (3, .own 0 0 0 0 1 false), (4, .own 1 0 0 0 1 false), (5, .val (.int .i64 0))], hp [(1, ⟨[], false⟩), (0, ⟨[], false⟩)] 2⟩ ?_ ?_
    · refine SW_of_vc Try.mixed _ _ _ (by kernel_rfl) ?_
      simp (disch := omega) only [Try.ntmps25, Try.results25, go_sem, rr_eq, rep_zero0]
      exact Wk.of (by simp only [go_sem, ↓List.forall_mem_cons, List.not_mem_nil, false_implies, implies_true, and_true, true_and, and_self, ri_eq, Int.natCast_add, Int.cast_ofNat_Int, rr_eq]; try simp) rfl
    refine SW.block ?_
    refine LoopW.loop (fun y : Nat × Nat × Nat × Nat => ⟨ofL [(0, rr M), (3, .own y.2.1 0 y.1 y.1 1 false), (4, .own y.2.2.1 0 y.1 y.1 1 false), (5, .val (.int .i64 y.1))], hp [(y.2.2.1, ⟨ints (dgs M y.1), false⟩), (y.2.1, ⟨ints (oI M y.1), false⟩)] y.2.2.2⟩)
      (fun y => y.1 ≤ M.length ∧ y.2.1 < y.2.2.2 ∧ y.2.2.1 < y.2.2.2 ∧ y.2.1 ≠ y.2.2.1) (fun y => M.length - y.1) (0, 0, 1, 2) (by simp) (Wk.of (by simp only [go_sem, ↓List.forall_mem_cons, List.not_mem_nil, false_implies, implies_true, and_true, true_and, and_self, ri_eq, Int.natCast_add, Int.cast_ofNat_Int, rr_eq]; try simp) rfl) ?_
    rintro ⟨i, ob, db, nb⟩ ⟨hi, ho, hd, hne⟩
    simp only at hi ho hd hne
    refine SW.seqI (fun _ : Unit => ⟨ofL [(0, rr M), (3, .own ob 0 i i 1 false), (4, .own db 0 i i 1 false), (5, .val (.int .i64 i))], hp [(db, ⟨ints (dgs M i), false⟩), (ob, ⟨ints (oI M i), false⟩)] nb⟩) (fun _ => i < M.length) ?_ ?_
    · refine SW_of_vc Try.mixed _ _ _ (by kernel_rfl) ?_
      by_cases hlt : i < M.length
      · simp (disch := omega) only [Try.ntmps25, Try.results25, go_sem, rr_eq, rep_zero0]
        exact ⟨(), hlt, Wk.of (by simp only [go_sem, ↓List.forall_mem_cons, List.not_mem_nil, false_implies, implies_true, and_true, true_and, and_self, ri_eq, Int.natCast_add, Int.cast_ofNat_Int, rr_eq]; try simp) rfl⟩
      · obtain rfl : i = M.length := by omega
        simp (disch := omega) only [Try.ntmps25, Try.results25, go_sem, rr_eq, rep_zero0]
        exact ⟨(ob, nb), Wk.ofH (by simp only [go_sem, ↓List.forall_mem_cons, List.not_mem_nil, false_implies, implies_true, and_true, true_and, and_self, ri_eq, Int.natCast_add, Int.cast_ofNat_Int, rr_eq]; try simp) (by simp [hp, hmap, hne]) (by simp [hp])⟩
    intro _ hlt
    have ho1 := oI_len M i
    have hd1 := dgs_len M i
    have ro := hw.2.1 i hlt
    have gr : (rows M)[i]? = some (.row M.length false (ints (mrow M i))) := by rw [rows_get hlt, ro]
    have rl : (rows M).length = M.length := by simp [rows]
    have hr : ∀ k, k < M.length → (-1000 ≤ mat M i k ∧ mat M i k ≤ 1000) := fun k hk => (hw.2.2.1 i k hlt hk).1
    have hdr : ∀ k, k ≤ M.length → 0 ≤ dgTo M i k ∧ dgTo M i k ≤ 1000 * k := fun k hk => dgTo_r hw hlt k hk
    refine SW.seqI (fun y : Nat × Nat × Nat => ⟨ofL [(0, rr M), (3, .own y.1 0 (i + 1) (i + 1) 1 false), (4, .own y.2.1 0 (i + 1) (i + 1) 1 false), (5, .val (.int .i64 i))], hp [(y.2.1, ⟨ints (dgs M (i + 1)), false⟩), (y.1, ⟨ints (oI M (i + 1)), false⟩)] y.2.2⟩) (fun y => y.1 < y.2.2 ∧ y.2.1 < y.2.2 ∧ y.1 ≠ y.2.1) ?_ ?_
    · refine SW.block ?_
      refine SW.seqW ⟨ofL [(0, rr M), (3, .own ob 0 i i 1 false), (4, .own db 0 i i 1 false), (5, .val (.int .i64 i)), (6, .val (.int .i64 0))], hp [(db, ⟨ints (dgs M i), false⟩), (ob, ⟨ints (oI M i), false⟩)] nb⟩ ?_ ?_
      · refine SW_of_vc Try.mixed _ _ _ (by kernel_rfl) ?_
        simp (disch := omega) only [Try.ntmps25, Try.results25, go_sem, rr_eq, rep_zero0]
        exact Wk.of (by simp only [go_sem, ↓List.forall_mem_cons, List.not_mem_nil, false_implies, implies_true, and_true, true_and, and_self, ri_eq, Int.natCast_add, Int.cast_ofNat_Int, rr_eq]; try simp) rfl
      refine SW.seqW ⟨ofL [(0, rr M), (3, .own ob 0 i i 1 false), (4, .own db 0 i i 1 false), (5, .val (.int .i64 i)), (6, .val (.int .i64 (dg M i)))], hp [(db, ⟨ints (dgs M i), false⟩), (ob, ⟨ints (oI M i), false⟩)] nb⟩ ?_ ?_
      · refine SW_of_vc Try.mixed _ _ _ (by kernel_rfl) ?_
        simp (disch := omega) only [Try.ntmps25, Try.results25, go_sem, rr_eq, rep_zero0]
        refine LoopW.loop (fun k : Nat => ⟨ofL [(0, rr M), (3, .own ob 0 i i 1 false), (4, .own db 0 i i 1 false), (5, .val (.int .i64 i)), (6, .val (.int .i64 (dgTo M i k))), (7, .val (.int .i64 k))], hp [(db, ⟨ints (dgs M i), false⟩), (ob, ⟨ints (oI M i), false⟩)] nb⟩) (fun k => k ≤ M.length) (fun k => M.length - k) 0 (by omega) (Wk.of (by simp only [go_sem, ↓List.forall_mem_cons, List.not_mem_nil, false_implies, implies_true, and_true, true_and, and_self, ri_eq, Int.natCast_add, Int.cast_ofNat_Int, rr_eq, dgTo]; try simp) rfl) ?_
        intro k hk
        have hdk := hdr k hk
        refine SW_of_vc Try.mixed _ _ _ (by kernel_rfl) ?_
        by_cases hltk : k < M.length
        · have g := hr k hltk
          have gk : (ints (mrow M i))[k]? = some (.val (.int .i64 (mat M i k))) := ints_get' ro hltk
          have hil : (ints (mrow M i)).length = M.length := by rw [ints_length, ro]
          have hs : dgTo M i (k + 1) = dgTo M i k + (if mat M i k < 0 then 0 else mat M i k) := rfl
          by_cases hneg : ¬ 0 < mat M i k
          · have hs : dgTo M i (k + 1) = dgTo M i k + 0 := by rw [hs]; split <;> omega
            rw [Int.add_zero] at hs
            simp (disch := omega) only [Try.ntmps25, Try.results25, go_sem, rr_eq, rep_zero0, gk, hil, gr, rl]
            exact ⟨k + 1, by omega, by omega, Wk.of (by simp only [go_sem, ↓List.forall_mem_cons, List.not_mem_nil, false_implies, implies_true, and_true, true_and, and_self, ri_eq, Int.natCast_add, Int.cast_ofNat_Int, rr_eq, hs]; try simp) rfl⟩
          · have hneg : 0 < mat M i k := by omega
            rw [if_neg (by omega)] at hs
            simp (disch := omega) only [Try.ntmps25, Try.results25, go_sem, rr_eq, rep_zero0, gk, hil, gr, rl]
            exact ⟨k + 1, by omega, by omega, Wk.of (by simp only [go_sem, ↓List.forall_mem_cons, List.not_mem_nil, false_implies, implies_true, and_true, true_and, and_self, ri_eq, Int.natCast_add, Int.cast_ofNat_Int, rr_eq, hs]; try simp) rfl⟩
        · obtain rfl : k = M.length := by omega
          simp (disch := omega) only [Try.ntmps25, Try.results25, go_sem, rr_eq, rep_zero0]
          exact Wk.of (by simp only [go_sem, ↓List.forall_mem_cons, List.not_mem_nil, false_implies, implies_true, and_true, true_and, and_self, ri_eq, Int.natCast_add, Int.cast_ofNat_Int, rr_eq, dg]; try simp) rfl
      refine SW.seqI (fun y : Nat × Nat => ⟨ofL [(0, rr M), (3, .own ob 0 i i 1 false), (4, .own y.1 0 (i + 1) (i + 1) 1 false), (5, .val (.int .i64 i)), (6, .val (.int .i64 (dg M i)))], hp [(y.1, ⟨ints (dgs M (i + 1)), false⟩), (ob, ⟨ints (oI M i), false⟩)] y.2⟩) (fun y => ob < y.2 ∧ y.1 < y.2 ∧ ob ≠ y.1) ?_ ?_
      · have hil : (ints (dgs M i)).length = i := by rw [ints_length, hd1]
        have htk : List.take i (ints (dgs M i)) = ints (dgs M i) := List.take_of_length_le (by omega)
        have hsn : ints (dgs M i) ++ [.val (.int .i64 (dg M i))] = ints (dgs M (i + 1)) := by rw [dgs_succ]; simp [ints]
        refine SW_of_vc Try.mixed _ _ _ (by kernel_rfl) ?_
        simp (disch := omega) only [Try.ntmps25, Try.results25, go_sem, rr_eq, rep_zero0, hil, htk, hsn]
        exact ⟨(nb + 1, nb + 1 + 1), ⟨by show ob < nb + 1 + 1; omega, by show nb + 1 < nb + 1 + 1; omega, by show ob ≠ nb + 1; omega⟩, Wk.ofH (by simp only [go_sem, ↓List.forall_mem_cons, List.not_mem_nil, false_implies, implies_true, and_true, true_and, and_self, ri_eq, Int.natCast_add, Int.cast_ofNat_Int, rr_eq]; try simp) (by simp only [hp, hmap, ↓List.forall_mem_cons, List.not_mem_nil, false_implies, implies_true, and_true, if_true]; refine ⟨by simp, ?_⟩; rw [if_neg (by omega)]; try rw [if_neg (by omega)]; try simp) (by simp [hp])⟩
      rintro ⟨db, nb⟩ ⟨ho, hd, hne⟩
      simp only at ho hd hne
      refine SW.seqW ⟨ofL [(0, rr M), (3, .own ob 0 i i 1 false), (4, .own db 0 (i + 1) (i + 1) 1 false), (5, .val (.int .i64 i)), (6, .val (.int .i64 (dg M i))), (8, .val (.int .i64 i))], hp [(db, ⟨ints (dgs M (i + 1)), false⟩), (ob, ⟨ints (oI M i), false⟩)] nb⟩ ?_ ?_
      · refine SW_of_vc Try.mixed _ _ _ (by kernel_rfl) ?_
        simp (disch := omega) only [Try.ntmps25, Try.results25, go_sem, rr_eq, rep_zero0]
        exact Wk.of (by simp only [go_sem, ↓List.forall_mem_cons, List.not_mem_nil, false_implies, implies_true, and_true, true_and, and_self, ri_eq, Int.natCast_add, Int.cast_ofNat_Int, rr_eq]; try simp) rfl
      refine SW.seqW ⟨ofL [(0, rr M), (3, .own ob 0 i i 1 false), (4, .own db 0 (i + 1) (i + 1) 1 false), (5, .val (.int .i64 i)), (6, .val (.int .i64 (dg M i))), (8, .val (.int .i64 (down M (dOrd M i) (dg M i) i)))], hp [(db, ⟨ints (dgs M (i + 1)), false⟩), (ob, ⟨ints (oI M i), false⟩)] nb⟩ ?_ ?_
      · refine SW_of_vc Try.mixed _ _ _ (by kernel_rfl) ?_
        simp (disch := omega) only [Try.ntmps25, Try.results25, go_sem, rr_eq, rep_zero0]
        refine LoopW.loop (fun p : Nat => ⟨ofL [(0, rr M), (3, .own ob 0 i i 1 false), (4, .own db 0 (i + 1) (i + 1) 1 false), (5, .val (.int .i64 i)), (6, .val (.int .i64 (dg M i))), (8, .val (.int .i64 p))], hp [(db, ⟨ints (dgs M (i + 1)), false⟩), (ob, ⟨ints (oI M i), false⟩)] nb⟩) (fun p => p ≤ i ∧ down M (dOrd M i) (dg M i) i = down M (dOrd M i) (dg M i) p) (fun p => p) i ⟨by omega, rfl⟩ (Wk.of (by simp only [go_sem, ↓List.forall_mem_cons, List.not_mem_nil, false_implies, implies_true, and_true, true_and, and_self, ri_eq, Int.natCast_add, Int.cast_ofNat_Int, rr_eq]; try simp) rfl) ?_
        rintro p ⟨hp, hdn⟩
        refine SW_of_vc Try.mixed _ _ _ (by kernel_rfl) ?_
        cases p with
        | zero =>
          have hdn : down M (dOrd M i) (dg M i) i = 0 := hdn
          simp (disch := omega) only [Try.ntmps25, Try.results25, go_sem, rr_eq, rep_zero0]
          exact Wk.of (by simp only [go_sem, ↓List.forall_mem_cons, List.not_mem_nil, false_implies, implies_true, and_true, true_and, and_self, ri_eq, Int.natCast_add, Int.cast_ofNat_Int, rr_eq, hdn]; try simp) rfl
        | succ q =>
          obtain ⟨k1, k2⟩ := oI_get M (i := i) (p := q) (by omega)
          have eo : (ints (oI M i))[q]? = some (.val (.int .i64 (((dOrd M i).getD q 0 : Nat) : Int))) := by rw [ints_get (by omega), k1]
          have ed : (ints (dgs M (i + 1)))[(dOrd M i).getD q 0]? = some (.val (.int .i64 (dg M ((dOrd M i).getD q 0)))) := by rw [ints_get (by rw [dgs_len]; omega), dgs_get M (by omega)]
          have hil : (ints (oI M i)).length = i := by rw [ints_length, ho1]
          have hil2 : (ints (dgs M (i + 1))).length = i + 1 := by rw [ints_length, dgs_len]
          have hq1 : (((q + 1 : Nat) : Int)) - 1 = (q : Int) := by omega
          have hds : down M (dOrd M i) (dg M i) (q + 1) = if dg M ((dOrd M i).getD q 0) < dg M i then down M (dOrd M i) (dg M i) q else q + 1 := rfl
          generalize (dOrd M i).getD q 0 = x at *
          by_cases hlt2 : dg M x < dg M i
          · rw [if_pos hlt2] at hds
            simp (disch := omega) only [Try.ntmps25, Try.results25, go_sem, rr_eq, rep_zero0, eo, ed, hil, hil2, hq1]
            exact ⟨q, ⟨by omega, by rw [hdn, hds]⟩, by omega, Wk.of (by simp only [go_sem, ↓List.forall_mem_cons, List.not_mem_nil, false_implies, implies_true, and_true, true_and, and_self, ri_eq, Int.natCast_add, Int.cast_ofNat_Int, rr_eq]; try simp) rfl⟩
          · rw [if_neg hlt2] at hds
            have hdn : down M (dOrd M i) (dg M i) i = q + 1 := by rw [hdn, hds]
            simp (disch := omega) only [Try.ntmps25, Try.results25, go_sem, rr_eq, rep_zero0, eo, ed, hil, hil2, hq1]
            exact Wk.of (by simp only [go_sem, ↓List.forall_mem_cons, List.not_mem_nil, false_implies, implies_true, and_true, true_and, and_self, ri_eq, Int.natCast_add, Int.cast_ofNat_Int, rr_eq, hdn]; try simp) rfl
      have hdl := down_le M (dOrd M i) (dg M i) i
      have hos := oI_succ M i
      generalize down M (dOrd M i) (dg M i) i = at0 at *
      have hil : (ints (oI M i)).length = i := by rw [ints_length, ho1]
      have hf1 : (List.take at0 (ints (oI M i))).all flat = true := List.all_eq_true.2 fun x hx => by obtain ⟨y, _, rfl⟩ := List.mem_map.1 (List.mem_of_mem_take hx); rfl
      have hf2 : (List.drop at0 (ints (oI M i))).all flat = true := List.all_eq_true.2 fun x hx => by obtain ⟨y, _, rfl⟩ := List.mem_map.1 (List.mem_of_mem_drop hx); rfl
      have e1 : ints (oI M (i + 1)) = List.take at0 (ints (oI M i)) ++ .val (.int .i64 i) :: List.drop at0 (ints (oI M i)) := by rw [hos]; simp [ints, List.map_take, List.map_drop]
      have lt : (List.take at0 (ints (oI M i))).length = at0 := by simp [hil]; omega
      have tk0 : List.take at0 (List.take at0 (ints (oI M i))) = List.take at0 (ints (oI M i)) := by rw [List.take_take, Nat.min_self]
      clear hos
      have dt : List.take (i - at0) (List.drop at0 (ints (oI M i))) = List.drop at0 (ints (oI M i)) := List.take_of_length_le (by rw [List.length_drop, hil]; omega)
      have lt1 : (List.take at0 (ints (oI M i)) ++ [SV.val (Value.int IntKind.i64 ↑i)]).length = at0 + 1 := by rw [List.length_append, lt]; rfl
      have tk1 : List.take (at0 + 1) (List.take at0 (ints (oI M i)) ++ [SV.val (Value.int IntKind.i64 ↑i)]) = List.take at0 (ints (oI M i)) ++ [SV.val (Value.int IntKind.i64 ↑i)] := List.take_of_length_le (by omega)
      generalize ints (oI M i) = A at *
      generalize ints (oI M (i + 1)) = A' at *
      rcases Nat.eq_zero_or_pos at0 with h0 | h0 <;> rcases Nat.lt_or_ge at0 i with h1 | h1
      all_goals
        refine SW.regionP (fun _ => True) [3, 10] [0, 4, 6, 7, 11] [0, 1, 2, 3, 4, 5, 6, 7, 8, 9, 10, 11, 12] [[0, 1, 2, 3, 5, 6, 4, 7, 8, 9, 10, 11, 12], [1, 2, 3, 5, 6, 0, 4, 7, 8, 9, 10, 11, 12]] Try.mixed (by kernel_rfl) trivial ⟨?_, ?_, ?_, trivial⟩
      all_goals
        simp (disch := omega) only [Try.ntmps25, Try.results25, go_sem, rr_eq, rep_zero0, hil, hf1, hf2, lt, tk0, dt, lt1, tk1]
        refine SliceS.own ?_
        simp (disch := omega) only [Try.ntmps25, Try.results25, go_sem, rr_eq, rep_zero0, hil, hf1, hf2, lt, tk0, dt, lt1, tk1]
        refine SliceS.own ?_
        simp (disch := omega) only [Try.ntmps25, Try.results25, go_sem, rr_eq, rep_zero0, hil, hf1, hf2, lt, tk0, dt, lt1, tk1]
      iterate 3
        · have n1 : 1 + (i - at0) = i + 1 := by omega
          have e2 : A' = .val (.int .i64 i) :: List.drop at0 A := by rw [e1, h0]; rfl
          exact ⟨(nb + 1 + 1 + 1, db, nb + 1 + 1 + 1 + 1), ⟨by show nb + 1 + 1 + 1 < nb + 1 + 1 + 1 + 1; omega, by show db < nb + 1 + 1 + 1 + 1; omega, by show nb + 1 + 1 + 1 ≠ db; omega⟩, Wk.ofH (by simp only [go_sem, ↓List.forall_mem_cons, List.not_mem_nil, false_implies, implies_true, and_true, true_and, and_self, ri_eq, Int.natCast_add, Int.cast_ofNat_Int, rr_eq, n1]; try simp) (by rw [e2]; simp only [hp, hmap, ↓List.forall_mem_cons, List.not_mem_nil, false_implies, implies_true, and_true, if_true]; (repeat (first | rw [if_pos rfl] | rw [if_neg (by omega)])); try exact ⟨rfl, rfl⟩) (by simp [hp])⟩
      iterate 3
        · have n1 : i = 0 := by omega
          have e2 : A' = [.val (.int .i64 i)] := by rw [e1, h0, List.drop_zero, List.length_eq_zero_iff.1 (hil.trans n1)]; rfl
          exact ⟨(nb + 1 + 1, db, nb + 1 + 1 + 1), ⟨by show nb + 1 + 1 < nb + 1 + 1 + 1; omega, by show db < nb + 1 + 1 + 1; omega, by show nb + 1 + 1 ≠ db; omega⟩, Wk.ofH (by simp only [go_sem, ↓List.forall_mem_cons, List.not_mem_nil, false_implies, implies_true, and_true, true_and, and_self, ri_eq, Int.natCast_add, Int.cast_ofNat_Int, rr_eq, n1]; try simp) (by rw [e2]; simp only [hp, hmap, ↓List.forall_mem_cons, List.not_mem_nil, false_implies, implies_true, and_true, if_true]; (repeat (first | rw [if_pos rfl] | rw [if_neg (by omega)])); try exact ⟨rfl, rfl⟩) (by simp [hp])⟩
      iterate 3
        · have n1 : at0 + 1 + (i - at0) = i + 1 := by omega
          have e2 : A' = List.take at0 A ++ [SV.val (Value.int IntKind.i64 ↑i)] ++ List.drop at0 A := by rw [e1]; simp
          exact ⟨(nb + 1 + 1 + 1 + 1, db, nb + 1 + 1 + 1 + 1 + 1), ⟨by show nb + 1 + 1 + 1 + 1 < nb + 1 + 1 + 1 + 1 + 1; omega, by show db < nb + 1 + 1 + 1 + 1 + 1; omega, by show nb + 1 + 1 + 1 + 1 ≠ db; omega⟩, Wk.ofH (by simp only [go_sem, ↓List.forall_mem_cons, List.not_mem_nil, false_implies, implies_true, and_true, true_and, and_self, ri_eq, Int.natCast_add, Int.cast_ofNat_Int, rr_eq, n1]; try simp) (by rw [e2]; simp only [hp, hmap, ↓List.forall_mem_cons, List.not_mem_nil, false_implies, implies_true, and_true, if_true]; (repeat (first | rw [if_pos rfl] | rw [if_neg (by omega)])); try exact ⟨rfl, rfl⟩) (by simp [hp])⟩
      iterate 3
        · have n1 : at0 = i := by omega
          have e2 : A' = List.take at0 A ++ [SV.val (Value.int IntKind.i64 ↑i)] := by rw [e1, List.drop_of_length_le (by omega)]
          exact ⟨(nb + 1 + 1 + 1, db, nb + 1 + 1 + 1 + 1), ⟨by show nb + 1 + 1 + 1 < nb + 1 + 1 + 1 + 1; omega, by show db < nb + 1 + 1 + 1 + 1; omega, by show nb + 1 + 1 + 1 ≠ db; omega⟩, Wk.ofH (by simp only [go_sem, ↓List.forall_mem_cons, List.not_mem_nil, false_implies, implies_true, and_true, true_and, and_self, ri_eq, Int.natCast_add, Int.cast_ofNat_Int, rr_eq, n1]; try simp) (by rw [e2]; simp only [hp, hmap, ↓List.forall_mem_cons, List.not_mem_nil, false_implies, implies_true, and_true, if_true]; (repeat (first | rw [if_pos rfl] | rw [if_neg (by omega)])); try exact ⟨rfl, rfl⟩) (by simp [hp])⟩
    rintro ⟨ob2, db2, nb2⟩ ⟨ho2, hd2, hne2⟩
    simp only at ho2 hd2 hne2
    refine SW_of_vc Try.mixed _ _ _ (by kernel_rfl) ?_
    simp (disch := omega) only [Try.ntmps25, Try.results25, go_sem, rr_eq, rep_zero0]
    exact ⟨(i + 1, ob2, db2, nb2), ⟨by show i + 1 ≤ M.length; omega, ho2, hd2, hne2⟩, by show M.length - (i + 1) < M.length - i; omega, Wk.of (by simp only [go_sem, ↓List.forall_mem_cons, List.not_mem_nil, false_implies, implies_true, and_true, true_and, and_self, ri_eq, Int.natCast_add, Int.cast_ofNat_Int, rr_eq]; try simp) rfl⟩
  rintro ⟨ob, nb⟩ _
  simp only
  have hol := oI_len M M.length
  refine SW_of_vc Try.mixed _ _ _ (by kernel_rfl) ?_
  simp (disch := omega) only [Try.ntmps25, Try.results25, go_sem, rr_eq, rep_zero0]
  exact fin_ints (e2 := false) (by omega) (by simp [hp, hmap])
end Go.Sh

/-
  Drawing an order.
-/
namespace Go.Sh
set_option linter.unusedSimpArgs false
set_option linter.unusedVariables false
open Go Go.RowKit Go.Proofs

def OrdQ (B : List Int) (n : Nat) (cb : Nat) (H : Heap) (r : SV) (H' : Heap) : Prop :=
  ∃ lb L, r = .own lb 0 L.length L.length 1 false ∧ H'.map lb = some ⟨ints L, false⟩ ∧ H.nb ≤ lb ∧ lb < H'.nb ∧ DS B cb H H' ∧ L.length ≤ n + 1
set_option maxRecDepth 20000 in
set_option maxHeartbeats 16000000 in
theorem Try.l22Order_ok (B : List Int) (hB : B.length ≤ 1048576) (n : Nat) (h9 : n ≤ 9) (H : Heap) (cb : Nat) (hc : Cur B H cb) (hcb : cb < H.nb) : CallS Try.prog 96 [.optr cb 0, .val (.int .i64 n)] H (OrdQ B n cb H) := by
  have hd0 := DS.push hc hcb ⟨[], false⟩
  refine CallS.of_body Try.func96 rfl (by kernel_rfl) (by simp [Try.ntmps96]) ?_
  refine SW.seqW ⟨ofL [(0, .optr cb 0), (1, .val (.int .i64 n))], H⟩ ?_ ?_
  · refine SW_of_vc Try.mixed _ _ _ (by kernel_rfl) ?_
    simp (disch := omega) only [Try.ntmps96, Try.results96, go_sem, rep_zero0]
    exact Wk.of (by simp only [go_sem, ↓List.forall_mem_cons, List.not_mem_nil, false_implies, implies_true, and_true, true_and, and_self, ri_eq, Int.natCast_add, Int.cast_ofNat_Int]; try simp) rfl
  refine SW.seqW ⟨ofL [(0, .optr cb 0), (1, .val (.int .i64 n)), (5, .own H.nb 0 0 0 1 false)], H.push ⟨[], false⟩⟩ ?_ ?_
  · refine SW_of_vc Try.mixed _ _ _ (by kernel_rfl) ?_
    simp (disch := omega) only [Try.ntmps96, Try.results96, go_sem, rep_zero0]
    exact Wk.of (by simp only [go_sem, ↓List.forall_mem_cons, List.not_mem_nil, false_implies, implies_true, and_true, true_and, and_self, ri_eq, Int.natCast_add, Int.cast_ofNat_Int]; try simp) rfl
  refine SW.seqI (fun y : List Int × Nat × Heap => ⟨ofL [(0, .optr cb 0), (5, .own y.2.1 0 y.1.length y.1.length 1 false)], y.2.2⟩) (fun y => y.1.length = n ∧ y.2.2.map y.2.1 = some ⟨ints y.1, false⟩ ∧ H.nb ≤ y.2.1 ∧ y.2.1 < y.2.2.nb ∧ DS B cb H y.2.2) ?_ ?_
  · refine SW.seqW ⟨ofL [(0, .optr cb 0), (1, .val (.int .i64 n)), (5, .own H.nb 0 0 0 1 false), (6, .val (.int .i64 0))], H.push ⟨[], false⟩⟩ ?_ ?_
    · refine SW_of_vc Try.mixed _ _ _ (by kernel_rfl) ?_
      simp (disch := omega) only [Try.ntmps96, Try.results96, go_sem, rep_zero0]
      exact Wk.of (by simp only [go_sem, ↓List.forall_mem_cons, List.not_mem_nil, false_implies, implies_true, and_true, true_and, and_self, ri_eq, Int.natCast_add, Int.cast_ofNat_Int]; try simp) rfl
    refine SW.block ?_
    refine LoopW.loop (fun y : Nat × List Int × Nat × Heap => ⟨ofL [(0, .optr cb 0), (1, .val (.int .i64 n)), (5, .own y.2.2.1 0 y.1 y.1 1 false), (6, .val (.int .i64 y.1))], y.2.2.2⟩)
      (fun y => y.1 ≤ n ∧ y.2.1.length = y.1 ∧ y.2.2.2.map y.2.2.1 = some ⟨ints y.2.1, false⟩ ∧ H.nb ≤ y.2.2.1 ∧ y.2.2.1 < y.2.2.2.nb ∧ DS B cb H y.2.2.2) (fun y => n - y.1) (0, [], H.nb, H.push ⟨[], false⟩)
      ⟨by simp, rfl, by rw [hpush_map, if_pos rfl]; rfl, Nat.le_refl _, by show H.nb < (H.push _).nb; rw [hpush_nb]; omega, hd0⟩ (Wk.of (by simp only [go_sem, ↓List.forall_mem_cons, List.not_mem_nil, false_implies, implies_true, and_true, true_and, and_self, ri_eq, Int.natCast_add, Int.cast_ofNat_Int]; try simp) rfl) ?_
    clear hd0
    rintro ⟨k, L, lb, H1⟩ ⟨hk, hL, hm, hl1, hl2, hd⟩
    simp only at hk hL hm hl1 hl2 hd
    have hnb := hd.nb
    refine SW.seqI (fun _ : Unit => ⟨ofL [(0, .optr cb 0), (1, .val (.int .i64 n)), (5, .own lb 0 k k 1 false), (6, .val (.int .i64 k))], H1⟩) (fun _ => k < n) ?_ ?_
    · refine SW_of_vc Try.mixed _ _ _ (by kernel_rfl) ?_
      by_cases hlt : k < n
      · simp (disch := omega) only [Try.ntmps96, Try.results96, go_sem, rep_zero0]
        exact ⟨(), hlt, Wk.of (by simp only [go_sem, ↓List.forall_mem_cons, List.not_mem_nil, false_implies, implies_true, and_true, true_and, and_self, ri_eq, Int.natCast_add, Int.cast_ofNat_Int]; try simp) rfl⟩
      · obtain rfl : k = n := by omega
        simp (disch := omega) only [Try.ntmps96, Try.results96, go_sem, rep_zero0]
        exact ⟨(L, lb, H1), ⟨hL, hm, hl1, hl2, hd⟩, Wk.of (by simp only [go_sem, ↓List.forall_mem_cons, List.not_mem_nil, false_implies, implies_true, and_true, true_and, and_self, ri_eq, Int.natCast_add, Int.cast_ofNat_Int, hL]; try simp) rfl⟩
    intro _ hlt
    refine SW.seqI (fun y : List Int × Nat × Heap => ⟨ofL [(0, .optr cb 0), (1, .val (.int .i64 n)), (5, .own y.2.1 0 (k + 1) (k + 1) 1 false), (6, .val (.int .i64 k))], y.2.2⟩) (fun y => y.1.length = k + 1 ∧ y.2.2.map y.2.1 = some ⟨ints y.1, false⟩ ∧ H.nb ≤ y.2.1 ∧ y.2.1 < y.2.2.nb ∧ DS B cb H y.2.2) ?_ ?_
    · refine SW.block ?_
      refine SW.seqI (fun y : Nat × Heap => ⟨ofL [(0, .optr cb 0), (1, .val (.int .i64 n)), (5, .own lb 0 k k 1 false), (6, .val (.int .i64 k)), (7, .val (.int .i64 y.1))], y.2⟩) (fun y => y.1 ≤ k ∧ y.2.map lb = some ⟨ints L, false⟩ ∧ DS B cb H1 y.2) ?_ ?_
      · have w := Try.l1Below_ok B hB ((k : Int) + 1) (by omega) H1 cb hd.cur
        refine SW_of_vc Try.mixed _ _ _ (by kernel_rfl) ?_
        simp (disch := omega) only [Try.ntmps96, Try.results96, go_sem, rep_zero0]
        refine w.callX ?_
        rintro r H2 ⟨v, rfl, v0, v1, v2, hs⟩
        have v1 := v1 (by omega)
        obtain ⟨q, rfl⟩ := Int.eq_ofNat_of_zero_le v0
        simp (disch := omega) only [Try.ntmps96, Try.results96, go_sem, rep_zero0]
        exact ⟨(q, H2), ⟨by show q ≤ k; omega, by show H2.map lb = _; rw [hs.map (by omega), hm], hs.ds⟩, Wk.of (by simp only [go_sem, ↓List.forall_mem_cons, List.not_mem_nil, false_implies, implies_true, and_true, true_and, and_self, ri_eq, Int.natCast_add, Int.cast_ofNat_Int]; try simp) rfl⟩
      rintro ⟨at0, H2⟩ ⟨hdl, hm2, hd2⟩
      simp only at hdl hm2 hd2
      have hd3 := hd.trans hd2
      have hnb2 := hd2.nb
      clear hd hd2
      have hil : (ints L).length = k := by rw [ints_length, hL]
      have hf1 : (List.take at0 (ints L)).all flat = true := List.all_eq_true.2 fun x hx => by obtain ⟨y, _, rfl⟩ := List.mem_map.1 (List.mem_of_mem_take hx); rfl
      have hf2 : (List.drop at0 (ints L)).all flat = true := List.all_eq_true.2 fun x hx => by obtain ⟨y, _, rfl⟩ := List.mem_map.1 (List.mem_of_mem_drop hx); rfl
      obtain ⟨L', hL'⟩ : ∃ L', L' = L.take at0 ++ (k : Int) :: L.drop at0 := ⟨_, rfl⟩
      have e1 : ints L' = List.take at0 (ints L) ++ .val (.int .i64 k) :: List.drop at0 (ints L) := by rw [hL']; simp [ints, List.map_take, List.map_drop]
      have l' : L'.length = k + 1 := by rw [hL']; simp [hL]; omega
      have lt : (List.take at0 (ints L)).length = at0 := by simp [hil]; omega
      have tk0 : List.take at0 (List.take at0 (ints L)) = List.take at0 (ints L) := by rw [List.take_take, Nat.min_self]
      have dt : List.take (k - at0) (List.drop at0 (ints L)) = List.drop at0 (ints L) := List.take_of_length_le (by rw [List.length_drop, hil]; omega)
      have lt1 : (List.take at0 (ints L) ++ [SV.val (Value.int IntKind.i64 ↑k)]).length = at0 + 1 := by rw [List.length_append, lt]; rfl
      have tk1 : List.take (at0 + 1) (List.take at0 (ints L) ++ [SV.val (Value.int IntKind.i64 ↑k)]) = List.take at0 (ints L) ++ [SV.val (Value.int IntKind.i64 ↑k)] := List.take_of_length_le (by omega)
      clear hL'
      have fin : ∀ (nk : Nat) (H' : Heap) (A' : List SV), A' = ints L' → H'.map nk = some ⟨A', false⟩ → H.nb ≤ nk → nk < H'.nb → H2.nb ≤ H'.nb → (∀ b, b < H2.nb → b ≠ lb → H'.map b = H2.map b) → (L'.length = k + 1 ∧ H'.map nk = some ⟨ints L', false⟩ ∧ H.nb ≤ nk ∧ nk < H'.nb ∧ DS B cb H H') := fun nk H' A' hA h1 h2 h3 h4 h5 => by
        obtain ⟨i, x, hi, e⟩ := hd3.cur
        exact ⟨l', by rw [h1, hA], h2, h3, ⟨i, x, hi, by rw [h5 cb (by omega) (by omega), e]⟩, by omega, fun b hb hbc => by rw [h5 b (by omega) (by omega), hd3.fr b hb hbc]⟩
      generalize ints L = A at *
      rcases Nat.eq_zero_or_pos at0 with h0 | h0 <;> rcases Nat.lt_or_ge at0 k with h1 | h1
      all_goals
        refine SW.regionP (fun _ => True) [3, 10] [0, 4, 6, 7, 11] [0, 1, 2, 3, 4, 5, 6, 7, 8, 9, 10, 11, 12] [[0, 1, 2, 3, 5, 6, 4, 7, 8, 9, 10, 11, 12], [1, 2, 3, 5, 6, 0, 4, 7, 8, 9, 10, 11, 12]] Try.mixed (by kernel_rfl) trivial ⟨?_, ?_, ?_, trivial⟩
      all_goals
        simp (disch := omega) only [Try.ntmps96, Try.results96, go_sem, rep_zero0, hil, hf1, hf2, lt, tk0, dt, lt1, tk1, hm2, hset_map, hpush_map, hset_nb, hpush_nb]
        refine SliceS.own ?_
        simp (disch := omega) only [Try.ntmps96, Try.results96, go_sem, rep_zero0, hil, hf1, hf2, lt, tk0, dt, lt1, tk1, hm2, hset_map, hpush_map, hset_nb, hpush_nb]
        refine SliceS.own ?_
        simp (disch := omega) only [Try.ntmps96, Try.results96, go_sem, rep_zero0, hil, hf1, hf2, lt, tk0, dt, lt1, tk1, hm2, hset_map, hpush_map, hset_nb, hpush_nb]
      iterate 3
        · have n1 : 1 + (k - at0) = k + 1 := by omega
          have e2 : ints L' = .val (.int .i64 k) :: List.drop at0 A := by rw [e1, h0]; rfl
          refine ⟨(L', H2.nb + 1 + 1 + 1, _), ?_, Wk.of (by simp only [go_sem, ↓List.forall_mem_cons, List.not_mem_nil, false_implies, implies_true, and_true, true_and, and_self, ri_eq, Int.natCast_add, Int.cast_ofNat_Int, n1]; try simp) rfl⟩
          refine fin (H2.nb + 1 + 1 + 1) _ _ e2.symm ?_ ?_ ?_ ?_ ?_
          · simp (disch := omega) only [hset_map, hpush_map, hset_nb, hpush_nb, if_pos, ↓reduceIte]
          · omega
          · simp only [hset_nb, hpush_nb]; omega
          · simp only [hset_nb, hpush_nb]; omega
          · intro b hb hbl
            simp (disch := omega) only [hset_map, hpush_map, hset_nb, hpush_nb, if_neg, ↓reduceIte]
      iterate 3
        · have n1 : k = 0 := by omega
          have e2 : ints L' = [.val (.int .i64 k)] := by rw [e1, h0, List.drop_zero, List.length_eq_zero_iff.1 (hil.trans n1)]; rfl
          refine ⟨(L', H2.nb + 1 + 1, _), ?_, Wk.of (by simp only [go_sem, ↓List.forall_mem_cons, List.not_mem_nil, false_implies, implies_true, and_true, true_and, and_self, ri_eq, Int.natCast_add, Int.cast_ofNat_Int, n1]; try simp) rfl⟩
          refine fin (H2.nb + 1 + 1) _ _ e2.symm ?_ ?_ ?_ ?_ ?_
          · simp (disch := omega) only [hset_map, hpush_map, hset_nb, hpush_nb, if_pos, ↓reduceIte]
          · omega
          · simp only [hset_nb, hpush_nb]; omega
          · simp only [hset_nb, hpush_nb]; omega
          · intro b hb hbl
            simp (disch := omega) only [hset_map, hpush_map, hset_nb, hpush_nb, if_neg, ↓reduceIte]
      iterate 3
        · have n1 : at0 + 1 + (k - at0) = k + 1 := by omega
          have e2 : ints L' = List.take at0 A ++ [SV.val (Value.int IntKind.i64 ↑k)] ++ List.drop at0 A := by rw [e1]; simp
          refine ⟨(L', H2.nb + 1 + 1 + 1 + 1, _), ?_, Wk.of (by simp only [go_sem, ↓List.forall_mem_cons, List.not_mem_nil, false_implies, implies_true, and_true, true_and, and_self, ri_eq, Int.natCast_add, Int.cast_ofNat_Int, n1]; try simp) rfl⟩
          refine fin (H2.nb + 1 + 1 + 1 + 1) _ _ e2.symm ?_ ?_ ?_ ?_ ?_
          · simp (disch := omega) only [hset_map, hpush_map, hset_nb, hpush_nb, if_pos, ↓reduceIte]
          · omega
          · simp only [hset_nb, hpush_nb]; omega
          · simp only [hset_nb, hpush_nb]; omega
          · intro b hb hbl
            simp (disch := omega) only [hset_map, hpush_map, hset_nb, hpush_nb, if_neg, ↓reduceIte]
      iterate 3
        · have n1 : at0 = k := by omega
          have e2 : ints L' = List.take at0 A ++ [SV.val (Value.int IntKind.i64 ↑k)] := by rw [e1, List.drop_of_length_le (by omega)]
          refine ⟨(L', H2.nb + 1 + 1 + 1, _), ?_, Wk.of (by simp only [go_sem, ↓List.forall_mem_cons, List.not_mem_nil, false_implies, implies_true, and_true, true_and, and_self, ri_eq, Int.natCast_add, Int.cast_ofNat_Int, n1]; try simp) rfl⟩
          refine fin (H2.nb + 1 + 1 + 1) _ _ e2.symm ?_ ?_ ?_ ?_ ?_
          · simp (disch := omega) only [hset_map, hpush_map, hset_nb, hpush_nb, if_pos, ↓reduceIte]
          · omega
          · simp only [hset_nb, hpush_nb]; omega
          · simp only [hset_nb, hpush_nb]; omega
          · intro b hb hbl
            simp (disch := omega) only [hset_map, hpush_map, hset_nb, hpush_nb, if_neg, ↓reduceIte]
    rintro ⟨L', nk, H'⟩ ⟨g1, g2, g3, g4, g5⟩
    simp only at g1 g2 g3 g4 g5
    refine SW_of_vc Try.mixed _ _ _ (by kernel_rfl) ?_
    simp (disch := omega) only [Try.ntmps96, Try.results96, go_sem, rep_zero0]
    exact ⟨(k + 1, L', nk, H'), ⟨by show k + 1 ≤ n; omega, g1, g2, g3, g4, g5⟩, by show n - (k + 1) < n - k; omega, Wk.of (by simp only [go_sem, ↓List.forall_mem_cons, List.not_mem_nil, false_implies, implies_true, and_true, true_and, and_self, ri_eq, Int.natCast_add, Int.cast_ofNat_Int]; try simp) rfl⟩
  rintro ⟨L, lb, H1⟩ ⟨hL, hm, hl1, hl2, hd⟩
  simp only at hL hm hl1 hl2 hd
  have w := Try.l1Once_ok B hB 14 (by omega) H1 cb hd.cur
  have hil : (ints L).length = L.length := ints_length L
  have htk : List.take L.length (ints L) = ints L := List.take_of_length_le (by omega)
  refine SW_of_vc Try.mixed _ _ _ (by kernel_rfl) ?_
  simp (disch := omega) only [Try.ntmps96, Try.results96, go_sem, rep_zero0]
  refine w.callX ?_
  rintro r H2 ⟨b, rfl, hs⟩
  have hd2 := hd.trans hs.ds
  have hnb := hd.nb
  have hnb2 := hs.nb
  have hm2 : H2.map lb = some ⟨ints L, false⟩ := by rw [hs.map (by omega), hm]
  cases b with
  | false =>
    have hfin : OrdQ B n cb H (.own lb 0 L.length L.length 1 false) H2 := ⟨lb, L, rfl, hm2, hl1, by omega, hd2, by omega⟩
    simp (disch := omega) only [Try.ntmps96, Try.results96, go_sem, rep_zero0]
    exact hfin
  | true =>
    have wb := Try.l1Below_ok B hB 9 (by omega) H2 cb hd2.cur
    simp (disch := omega) only [Try.ntmps96, Try.results96, go_sem, rep_zero0]
    refine wb.callX ?_
    rintro r H3 ⟨v, rfl, v0, v1, v2, hs3⟩
    have hd3 := hd2.trans hs3.ds
    have hnb3 := hs3.nb
    have hm3 : H3.map lb = some ⟨ints L, false⟩ := by rw [hs3.map (by omega), hm2]
    have hsn : ints L ++ [.val (.int .i64 v)] = ints (L ++ [v]) := by simp [ints]
    have hl1' : (L ++ [v]).length = L.length + 1 := by simp
    have e4 := DS.push hd3.cur (by omega) ⟨[.val (.int .i64 v)], false⟩
    have e5 := (hd3.trans e4).setF lb hl1 (by omega) none
    have hfin : OrdQ B n cb H (.own (H3.nb + 1) 0 (L.length + 1) (L.length + 1) 1 false) _ := ⟨H3.nb + 1, L ++ [v], by rw [hl1'], by simp (disch := omega) only [hset_map, hpush_map, hset_nb, hpush_nb, if_pos, ↓reduceIte], by omega, by simp only [hset_nb, hpush_nb]; omega, e5.trans (DS.push e5.cur (by simp only [hset_nb, hpush_nb]; omega) ⟨ints (L ++ [v]), false⟩), by omega⟩
    simp (disch := omega) only [Try.ntmps96, Try.results96, go_sem, rep_zero0, hm3, hil, htk, hsn, hset_map, hpush_map, hset_nb, hpush_nb]
    exact hfin

open Classical in
theorem fin_ml {S : SV → Prop} {H : Heap} {lo ob xb : Nat} {cs : List SV} {nm : Nat → Nat} {M : List (List Int)} {L : List Int} {c1 c3 : Nat} {e1 e3 : Bool} (hM : MatH H lo ob cs nm M) (hx : H.map xb = some ⟨ints L, false⟩) (hS : S (.tup [rr M, ri L])) :
    Fin (R3 S) (.tup [.own ob 0 M.length c1 1 e1, .own xb 0 L.length c3 1 e3]) H := by
  let p : Nat → Prop := fun b => b = ob ∨ (∃ i, i < M.length ∧ b = nm i) ∨ b = xb
  have hM2 := hM.part p (.inl rfl) (fun i hi => .inr (.inl ⟨i, hi, rfl⟩))
  have hx2 : (part H p).map xb = some ⟨ints L, false⟩ := by rw [part_map (.inr (.inr rfl)), hx]
  refine ⟨part H p, part_sub H p, rfl, fun b blk hb => ?_, .tup [rr M, ri L], ?_, hS⟩
  · have hb' : (if p b then H.map b else none) = some blk := hb
    split at hb'
    · rename_i hp
      rcases hp with rfl | ⟨i, hi, rfl⟩ | rfl
      · rw [hM.o] at hb'; simp at hb'; subst hb'; exact hM.nr
      · obtain ⟨e, e2, k1, k2⟩ := hM.row i hi
        rw [k2] at hb'; simp at hb'; subst hb'; exact noRowL_ints _
      · rw [hx] at hb'; simp at hb'; subst hb'; exact noRowL_ints _
    · simp at hb'
  · have h1 : viewL (part H p) 2 [.own ob 0 M.length c1 1 e1, .own xb 0 L.length c3 1 e3] = some [rr M, ri L] :=
      viewL_cons_of (hM2.viewH (f := 0)) (viewL_cons_of (view_own hx2 rfl) viewL_nil_of)
    simp only [view, h1]
set_option maxHeartbeats 4000000 in
theorem Try.drawPiv_e (B : List Int) (hB : B.length ≤ 1048576) : PCallE Try.prog 42 [rby B] (fun X => ∃ M L, X = .tup [rr M, ri L] ∧ 1 ≤ M.length ∧ M.length ≤ 7 ∧ (∀ i, i < M.length → (mrow M i).length ≤ 6) ∧ L.length ≤ 9) := by
  refine FCall.pcallE (R := R3 (fun X => ∃ M L, X = .tup [rr M, ri L] ∧ 1 ≤ M.length ∧ M.length ≤ 7 ∧ (∀ i, i < M.length → (mrow M i).length ≤ 6) ∧ L.length ≤ 9)) ?_ 3 (fun _ _ h => h)
  refine FCall.of_body Try.func42 rfl (by kernel_rfl) (by simp [Try.ntmps42]) ?_
  refine SW_of_vc Try.mixed _ _ _ (by kernel_rfl) ?_
  simp (disch := omega) only [Try.ntmps42, Try.results42, go_sem, rby]
  refine (Try.l1New_ok B hB _).callX ?_
  rintro r H0 ⟨h, rfl, rfl⟩
  have hc : Cur B ((hp [] 0).push (curB B 0 h)) 0 := ⟨0, h, by omega, by rw [hpush_map]; rfl⟩
  have hn0 : ((hp [] 0).push (curB B 0 h)).nb = 1 := rfl
  generalize (hp [] 0).push (curB B 0 h) = H0 at *
  simp (disch := omega) only [Try.ntmps42, Try.results42, go_sem, rby]
  refine (Try.l17Any_ok B hB H0 0 hc (by omega)).callX ?_
  rintro r H1 ⟨ob, cs, nm, M, rfl, hM, hd, ⟨hl1, hl7⟩, hr6⟩
  have hnb := hd.nb
  have wl := Try.l22Order_ok B hB M.length (by omega) H1 0 hd.cur (by omega)
  simp (disch := omega) only [Try.ntmps42, Try.results42, go_sem, rby]
  refine wl.callX ?_
  rintro r H2 ⟨xb, K, rfl, hx, x1, x2, hd2, hK⟩
  have hM2 := hM.fr hd2.nb (fun b b1 b2 => hd2.fr b b2 (by omega))
  simp (disch := omega) only [Try.ntmps42, Try.results42, go_sem, rby]
  exact fin_ml hM2 hx ⟨M, K, rfl, hl1, hl7, hr6, by omega⟩
end Go.Sh

/-
  The laws' own helpers: is the code long; are two lists the same.
-/
namespace Go.Sh
set_option linter.unusedSimpArgs false
set_option linter.unusedVariables false
open Go Go.RowKit Go.Proofs

theorem Try.big_ok (B : List Int) (hB : B.length ≤ 9223372036854775807) : PCall Try.prog 8 [rby B] (.val (.bool (decide (1048576 < B.length)))) := by
  refine FCall.pcall (R := fun r _ => r = .val (.bool (decide (1048576 < B.length)))) ?_ 0 (by rintro r H rfl; exact view_bool)
  refine FCall.of_body Try.func8 rfl (by kernel_rfl) (by simp [Try.ntmps8]) ?_
  refine SW_of_vc Try.mixed _ _ _ (by kernel_rfl) ?_
  by_cases h : 1048576 < B.length
  · rw [decide_eq_true h]
    simp (disch := omega) only [Try.ntmps8, Try.results8, go_sem, rby]
    exact Fin.val rfl
  · rw [decide_eq_false h]
    simp (disch := omega) only [Try.ntmps8, Try.results8, go_sem, rby]
    exact Fin.val rfl
theorem Try.sameInts_ok (A : List Int) (hA : A.length ≤ 1048576) : PCall Try.prog 46 [ri A, ri A] (.val (.bool true)) := by
  refine FCall.pcall (R := fun r _ => r = .val (.bool true)) ?_ 0 (by rintro r H rfl; exact view_bool)
  refine FCall.of_body Try.func46 rfl (by kernel_rfl) (by simp [Try.ntmps46]) ?_
  refine SW_of_vc Try.mixed _ _ _ (by kernel_rfl) ?_
  simp (disch := omega) only [Try.ntmps46, Try.results46, go_sem]
  refine LoopW.loop (fun k : Nat => ⟨ofL [(0, ri A), (1, ri A), (5, .val (.int .i64 k))], hp [] 0⟩) (fun k => k ≤ A.length) (fun k => A.length - k) 0 (by omega) (Wk.of (by simp only [go_sem, ↓List.forall_mem_cons, List.not_mem_nil, false_implies, implies_true, and_true, true_and, and_self, ri_eq, Int.natCast_add, Int.cast_ofNat_Int]; try simp) rfl) ?_
  intro k hk
  refine SW_of_vc Try.mixed _ _ _ (by kernel_rfl) ?_
  by_cases hlt : k < A.length
  · have gx : (ints A)[k]? = some (.val (.int .i64 (A.getD k 0))) := ints_get hlt
    have hil := ints_length A
    simp (disch := omega) only [Try.ntmps46, Try.results46, go_sem, gx, hil, bne_self_eq_false]
    exact ⟨k + 1, by omega, by omega, Wk.of (by simp only [go_sem, ↓List.forall_mem_cons, List.not_mem_nil, false_implies, implies_true, and_true, true_and, and_self, ri_eq, Int.natCast_add, Int.cast_ofNat_Int]; try simp) rfl⟩
  · simp (disch := omega) only [Try.ntmps46, Try.results46, go_sem]
    exact Fin.val rfl
end Go.Sh

/-
  All items: of the program.
-/
namespace Go.Sh
set_option linter.unusedSimpArgs false
set_option linter.unusedVariables false
open Go Go.Proofs

def allI (k : Nat) : List Int := (List.range k).map fun i : Nat => (i : Int)
theorem allI_length (k : Nat) : (allI k).length = k := by simp [allI]
theorem allI_snoc (k : Nat) : ints (allI k) ++ [.val (.int .i64 (k : Int))] = ints (allI (k + 1)) := by simp [allI, ints, List.range_succ]
theorem allI_at {n k : Nat} (h : k < n) : (allI n).getD k 0 = (k : Int) := by simp [allI, h]

set_option maxHeartbeats 4000000 in
theorem Try.allItems_f (n : Nat) (h1 : 1 ≤ n) (h8 : n ≤ 8) : FCall Try.prog 78 [.val (.int .i64 n)] (FlatRes n 1 (ints (allI n))) := by
  refine FCall.of_body Try.func78 rfl (by kernel_rfl) (by simp [Try.ntmps78]) ?_
  refine SW_of_vc Try.mixed _ _ _ (by kernel_rfl) ?_
  simp (disch := omega) only [Try.ntmps78, Try.results78, go_sem]
  refine LoopW.loop (fun p : Nat × Nat × Nat => ⟨ofL [(3, nlI p.2.1 (allI p.1)), (5, .val (.int .i64 n)), (6, .val (.int .i64 p.1))], hp (nlH p.2.1 (allI p.1)) p.2.2⟩)
    (fun p => p.1 ≤ n ∧ (p.1 ≠ 0 → p.2.1 < p.2.2)) (fun p => n - p.1) (0, 0, 0) ⟨by simp, fun h => absurd rfl h⟩ (Wk.ofH (by simp only [go_sem, ↓List.forall_mem_cons, List.not_mem_nil, false_implies, implies_true, and_true, true_and, and_self, ri_eq, Int.natCast_add, Int.cast_ofNat_Int, nlI_t (T := allI 0) rfl]; try simp) (by simp [nlH, allI]) (by simp [hp])) ?_
  rintro ⟨k, ob, nb⟩ ⟨hk, hob⟩
  simp only at hk hob
  have hrl := allI_length k
  have hsn := allI_snoc k
  have hl2 := allI_length (k + 1)
  have e2 : ∀ b, nlI b (allI (k + 1)) = .own b 0 (k + 1) (k + 1) 1 false := fun b => by rw [nlI_f (by omega), hl2]
  have e3 : ∀ b, nlH b (allI (k + 1)) = [(b, ⟨ints (allI (k + 1)), false⟩)] := fun b => nlH_f (by omega)
  refine SW_of_vc Try.mixed _ _ _ (by kernel_rfl) ?_
  by_cases hlt : k < n
  · by_cases hz : k = 0
    · have hkl : (allI k).length = 0 := by omega
      have e0 := nlI_t (b := ob) hkl
      have h0 := nlH_t (b := ob) hkl
      have hsn0 : [SV.val (.int .i64 (k : Int))] = ints (allI (k + 1)) := by rw [← hsn, List.length_eq_zero_iff.1 hkl]; rfl
      have e2z : ∀ b, nlI b (allI (k + 1)) = .own b 0 1 1 1 false := fun b => by
        have hk1 : k + 1 = 1 := by omega
        rw [e2, hk1]
      simp (disch := omega) only [Try.ntmps78, Try.results78, go_sem, e0, h0]
      refine ⟨(k + 1, nb + 1, nb + 1 + 1), ⟨hlt, fun _ => by show nb + 1 < nb + 1 + 1; omega⟩, by show n - (k + 1) < n - k; omega, Wk.ofH (by simp only [go_sem, ↓List.forall_mem_cons, List.not_mem_nil, false_implies, implies_true, and_true, true_and, and_self, ri_eq, Int.natCast_add, Int.cast_ofNat_Int, e2z]; try simp) ?_ (Nat.le_refl _)⟩
      show ∀ q ∈ nlH (nb + 1) (allI (k + 1)), _
      refine nlH_in fun _ => ?_
      rw [← hsn0]; simp (disch := omega) only [hp_map, hmap_cons, if_pos, if_neg, ↓reduceIte]
    · have hkl : (allI k).length ≠ 0 := by omega
      have o2 := hob hz
      have e0 := nlI_f (b := ob) hkl
      have h0 := nlH_f (b := ob) hkl
      rw [hrl] at e0
      have hil : (ints (allI k)).length = k := by rw [ints_length, hrl]
      have hit : (ints (allI k)).take k = ints (allI k) := List.take_of_length_le (by omega)
      simp (disch := omega) only [Try.ntmps78, Try.results78, go_sem, e0, h0, hil, hit, hsn]
      refine ⟨(k + 1, nb + 1, nb + 1 + 1), ⟨hlt, fun _ => by show nb + 1 < nb + 1 + 1; omega⟩, by show n - (k + 1) < n - k; omega, Wk.ofH (by simp only [go_sem, ↓List.forall_mem_cons, List.not_mem_nil, false_implies, implies_true, and_true, true_and, and_self, ri_eq, Int.natCast_add, Int.cast_ofNat_Int, e2]; try simp) ?_ (Nat.le_refl _)⟩
      show ∀ q ∈ nlH (nb + 1) (allI (k + 1)), _
      refine nlH_in fun _ => ?_
      simp (disch := omega) only [hp_map, hmap_cons, if_pos, if_neg, ↓reduceIte]
  · obtain rfl : k = n := by omega
    have hkl : (allI k).length ≠ 0 := by omega
    have e0 := nlI_f (b := ob) hkl
    rw [hrl] at e0
    have hm := nlH_map (b := ob) hkl
    simp (disch := omega) only [Try.ntmps78, Try.results78, go_sem, e0]
    exact fin_ints hrl.symm (by rw [hp_map, hm])
theorem Try.allItems_one (n : Nat) (h1 : 1 ≤ n) (h8 : n ≤ 8) : FCall Try.prog 78 [.val (.int .i64 n)] (OneRes n 1 (ints (allI n))) := (Try.allItems_f n h1 h8).one
theorem Try.allItems_ok (n : Nat) (h1 : 1 ≤ n) (h8 : n ≤ 8) : PCall Try.prog 78 [.val (.int .i64 n)] (ri (allI n)) := (Try.allItems_one n h1 h8).pcall 2 (fun _ _ h => one_view h (allI_length n).symm)
end Go.Sh

/-
  The order by degrees: of the program. The sort of the library at few items is one insertion sort.
-/
namespace Go.Sh
set_option linter.unusedSimpArgs false
set_option linter.unusedVariables false
open Go Go.Proofs

def cmpI (a b : Int) : Int := if a < b then -1 else if b < a then 1 else 0
theorem Try.isNaNI_ok (a : Int) : PCall Try.prog 113 [.val (.int .i64 a)] (.val (.bool false)) := by
  refine FCall.pcall (R := fun r _ => r = .val (.bool false)) ?_ 0 (by rintro r H rfl; exact view_bool)
  refine FCall.of_body Try.func113 rfl (by kernel_rfl) (by simp [Try.ntmps113]) ?_
  refine SW_of_vc Try.mixed _ _ _ (by kernel_rfl) ?_
  simp (disch := omega) only [Try.ntmps113, Try.results113, go_sem, bne_self_eq_false]
  exact Fin.val rfl
set_option maxHeartbeats 1000000 in
theorem Try.compareI_ok (a b : Int) : PCall Try.prog 81 [.val (.int .i64 a), .val (.int .i64 b)] (.val (.int .i64 (cmpI a b))) := by
  refine FCall.pcall (R := fun r _ => r = .val (.int .i64 (cmpI a b))) ?_ 0 (by rintro r H rfl; exact view_int)
  refine FCall.of_body Try.func81 rfl (by kernel_rfl) (by simp [Try.ntmps81]) ?_
  have w1 := Try.isNaNI_ok a
  have w2 := Try.isNaNI_ok b
  refine SW_of_vc Try.mixed _ _ _ (by kernel_rfl) ?_
  rcases Int.lt_trichotomy a b with h | h | h
  · have e : cmpI a b = -1 := if_pos h
    simp (disch := omega) only [Try.ntmps81, Try.results81, go_sem]
    refine w1.callV 0 (viewL_cons_of (view_int) viewL_nil_of) ?_
    simp (disch := omega) only [Try.ntmps81, Try.results81, go_sem]
    refine w2.callV 0 (viewL_cons_of (view_int) viewL_nil_of) ?_
    simp (disch := omega) only [Try.ntmps81, Try.results81, go_sem]
    exact Fin.val (by rw [e])
  · subst h
    have e : cmpI a a = 0 := by simp [cmpI]
    simp (disch := omega) only [Try.ntmps81, Try.results81, go_sem]
    refine w1.callV 0 (viewL_cons_of (view_int) viewL_nil_of) ?_
    simp (disch := omega) only [Try.ntmps81, Try.results81, go_sem]
    refine w1.callV 0 (viewL_cons_of (view_int) viewL_nil_of) ?_
    simp (disch := omega) only [Try.ntmps81, Try.results81, go_sem]
    exact Fin.val (by rw [e])
  · have e : cmpI a b = 1 := by rw [cmpI, if_neg (by omega), if_pos h]
    simp (disch := omega) only [Try.ntmps81, Try.results81, go_sem]
    refine w1.callV 0 (viewL_cons_of (view_int) viewL_nil_of) ?_
    simp (disch := omega) only [Try.ntmps81, Try.results81, go_sem]
    refine w2.callV 0 (viewL_cons_of (view_int) viewL_nil_of) ?_
    simp (disch := omega) only [Try.ntmps81, Try.results81, go_sem]
    exact Fin.val (by rw [e])

theorem Try.degCmp_ok (S : List Int) (a b : Nat) (ha : a < S.length) (hb : b < S.length) (H : Heap) (cb sb cap : Nat) (ex e1 e2 : Bool) (hc : H.map cb = some ⟨[.own sb 0 S.length cap 1 ex], e1⟩) (hs : H.map sb = some ⟨ints S, e2⟩) :
    CallS Try.prog 80 [.val (.int .i64 a), .val (.int .i64 b), .optr cb 0] H (fun r H' => r = .val (.int .i64 (cmpI (S.getD b 0) (S.getD a 0))) ∧ H' = H) := by
  have w := Try.compareI_ok (S.getD b 0) (S.getD a 0)
  refine CallS.of_body Try.func80 rfl (by kernel_rfl) (by simp [Try.ntmps80]) ?_
  have g1 : (ints S)[a]? = some (.val (.int .i64 (S.getD a 0))) := ints_get ha
  have g2 : (ints S)[b]? = some (.val (.int .i64 (S.getD b 0))) := ints_get hb
  have gl : (ints S).length = S.length := ints_length S
  refine SW_of_vc Try.mixed _ _ _ (by kernel_rfl) ?_
  simp (disch := omega) only [Try.ntmps80, Try.results80, go_sem, hc, hs, g1, g2, gl]
  refine w.callDV 0 (viewL_cons_of (view_int) (viewL_cons_of (view_int) viewL_nil_of)) ?_
  simp (disch := omega) only [Try.ntmps80, Try.results80, go_sem, hc, hs, g1, g2, gl]

/-! ### The sort's list -/
/-- The list while item i is on its way down, at place j. -/
def mid (M : List (List Int)) (n i j : Nat) : List Int := (oI M i).take j ++ (i : Int) :: ((oI M i).drop j ++ (allI n).drop (i + 1))
def cur (M : List (List Int)) (n i : Nat) : List Int := oI M i ++ (allI n).drop i
theorem cur_zero (M : List (List Int)) (n : Nat) : cur M n 0 = allI n := by simp [cur, oI, dOrd]
theorem cur_all (M : List (List Int)) (n : Nat) : cur M n n = oI M n := by simp [cur, allI]
theorem cur_mid (M : List (List Int)) {n i : Nat} (h : i < n) : cur M n i = mid M n i i := by
  have hl := oI_len M i
  have el : (oI M i).drop i = [] := List.drop_of_length_le (by omega)
  rw [cur, mid, List.take_of_length_le (by omega), el, List.nil_append, List.drop_eq_getElem_cons (by rw [allI_length]; exact h)]
  simp [allI]
theorem mid_cur (M : List (List Int)) {n i : Nat} : mid M n i (down M (dOrd M i) (dg M i) i) = cur M n (i + 1) := by
  rw [cur, oI_succ, mid]; simp
theorem mid_len (M : List (List Int)) {n i j : Nat} (h : i < n) (hj : j ≤ i) : (mid M n i j).length = n := by
  have hl := oI_len M i
  simp [mid, hl, allI_length]; omega
theorem mid_at (M : List (List Int)) {n i j : Nat} (hj : j ≤ i) : (mid M n i j).getD j 0 = (i : Int) := by
  have hl := oI_len M i
  rw [mid, List.getD_eq_getElem?_getD, List.getElem?_append_right (by simp [hl]; omega)]
  simp [hl, Nat.min_eq_left hj]
theorem mid_pred (M : List (List Int)) {n i q : Nat} (hj : q + 1 ≤ i) : (mid M n i (q + 1)).getD q 0 = (((dOrd M i).getD q 0 : Nat) : Int) := by
  have hl := oI_len M i
  rw [← (oI_get M (i := i) (p := q) (by omega)).1, mid, List.getD_eq_getElem?_getD, List.getElem?_append_left (by simp [hl]; omega), List.getElem?_take_of_lt (by omega), ← List.getD_eq_getElem?_getD]
theorem mid_swap (M : List (List Int)) {n i q : Nat} (hj : q + 1 ≤ i) : ((mid M n i (q + 1)).set (q + 1) (((dOrd M i).getD q 0 : Nat) : Int)).set q (i : Int) = mid M n i q := by
  have hl := oI_len M i
  rw [← (oI_get M (i := i) (p := q) (by omega)).1, mid, mid]
  generalize oI M i = O at *
  have hq : q < O.length := by omega
  have e1 : O.take (q + 1) = O.take q ++ [O.getD q 0] := by rw [List.take_add_one]; simp [hq]
  have e2 : O.drop q = O.getD q 0 :: O.drop (q + 1) := by rw [List.drop_eq_getElem_cons hq]; simp [hq]
  have l1 : (O.take q).length = q := by simp; omega
  rw [e2, e1]
  generalize O.take q = A at *
  generalize O.getD q 0 = x
  subst l1
  rw [List.append_assoc, List.set_append_right _ _ (by omega), List.set_append_right _ _ (by omega)]
  simp

theorem cur_one (M : List (List Int)) {n : Nat} (h : 0 < n) : cur M n 1 = allI n := by
  rw [← mid_cur, ← cur_zero M n, cur_mid M h]; rfl
theorem cmpI_neg {a b : Int} : cmpI a b < 0 ↔ a < b := by unfold cmpI; split <;> (try split) <;> omega

set_option maxHeartbeats 8000000 in
theorem Try.insDeg_ok (M : List (List Int)) (n : Nat) (hn0 : 0 < n) (hn : n ≤ 1048576) (H : Heap) (ob cb sb cap scap : Nat) (ex ex2 e0 e1 e2 : Bool) (ho : H.map ob = some ⟨ints (allI n), e0⟩) (hc : H.map cb = some ⟨[.own sb 0 n scap 1 ex2], e1⟩) (hs : H.map sb = some ⟨ints (dgs M n), e2⟩) (h1 : ob ≠ cb) (h2 : ob ≠ sb) :
    CallS Try.prog 136 [.own ob 0 n cap 1 ex, .val (.int .i64 0), .val (.int .i64 n), .clos (.func 80) [] [.optr cb 0]] H (fun r H' => r = .tup [] ∧ H' = H.set ob (some ⟨ints (oI M n), e0⟩)) := by
  refine CallS.of_body Try.func136 rfl (by kernel_rfl) (by simp [Try.ntmps136]) ?_
  have c1 : ∀ k, (H.set ob k).map cb = some ⟨[.own sb 0 n scap 1 ex2], e1⟩ := fun k => by rw [hset_map, if_neg (Ne.symm h1), hc]
  have c2 : ∀ k, (H.set ob k).map sb = some ⟨ints (dgs M n), e2⟩ := fun k => by rw [hset_map, if_neg (Ne.symm h2), hs]
  have dl := dgs_len M n
  refine SW.seqW ⟨ofL [(0, .own ob 0 n cap 1 ex), (1, .val (.int .i64 0)), (2, .val (.int .i64 n)), (3, .clos (.func 80) [] [.optr cb 0]), (8, .val (.int .i64 1))], H⟩ ?_ ?_
  · refine SW_of_vc Try.mixed _ _ _ (by kernel_rfl) ?_
    simp (disch := omega) only [Try.ntmps136, Try.results136, go_sem]
    exact Wk.of (by simp only [go_sem, ↓List.forall_mem_cons, List.not_mem_nil, false_implies, implies_true, and_true, true_and, and_self, ri_eq, Int.natCast_add, Int.cast_ofNat_Int]; try simp) rfl
  refine SW.block ?_
  refine LoopW.loop (fun i : Nat => ⟨ofL [(0, .own ob 0 n cap 1 ex), (1, .val (.int .i64 0)), (2, .val (.int .i64 n)), (3, .clos (.func 80) [] [.optr cb 0]), (8, .val (.int .i64 i))], H.set ob (some ⟨ints (cur M n i), e0⟩)⟩) (fun i => 1 ≤ i ∧ i ≤ n) (fun i => n - i) 1 ⟨Nat.le_refl _, hn0⟩ (Wk.of (by simp only [go_sem, ↓List.forall_mem_cons, List.not_mem_nil, false_implies, implies_true, and_true, true_and, and_self, ri_eq, Int.natCast_add, Int.cast_ofNat_Int]; try simp) (by rw [cur_one M hn0, Heap.set_self ho])) ?_
  rintro i ⟨hi1, hi⟩
  refine SW.seqI (fun _ : Unit => ⟨ofL [(0, .own ob 0 n cap 1 ex), (1, .val (.int .i64 0)), (2, .val (.int .i64 n)), (3, .clos (.func 80) [] [.optr cb 0]), (8, .val (.int .i64 i))], H.set ob (some ⟨ints (cur M n i), e0⟩)⟩) (fun _ => i < n) ?_ ?_
  · refine SW_of_vc Try.mixed _ _ _ (by kernel_rfl) ?_
    by_cases hlt : i < n
    · simp (disch := omega) only [Try.ntmps136, Try.results136, go_sem]
      exact ⟨(), hlt, Wk.of (by simp only [go_sem, ↓List.forall_mem_cons, List.not_mem_nil, false_implies, implies_true, and_true, true_and, and_self, ri_eq, Int.natCast_add, Int.cast_ofNat_Int]; try simp) rfl⟩
    · obtain rfl : i = n := by omega
      simp (disch := omega) only [Try.ntmps136, Try.results136, go_sem, cur_all]
  intro _ hlt
  refine SW.seqW ⟨ofL [(0, .own ob 0 n cap 1 ex), (1, .val (.int .i64 0)), (2, .val (.int .i64 n)), (3, .clos (.func 80) [] [.optr cb 0]), (8, .val (.int .i64 i))], H.set ob (some ⟨ints (cur M n (i + 1)), e0⟩)⟩ ?_ ?_
  · refine SW.block ?_
    refine SW.seqW ⟨ofL [(0, .own ob 0 n cap 1 ex), (1, .val (.int .i64 0)), (2, .val (.int .i64 n)), (3, .clos (.func 80) [] [.optr cb 0]), (8, .val (.int .i64 i)), (9, .val (.int .i64 i))], H.set ob (some ⟨ints (mid M n i i), e0⟩)⟩ ?_ ?_
    · refine SW_of_vc Try.mixed _ _ _ (by kernel_rfl) ?_
      simp (disch := omega) only [Try.ntmps136, Try.results136, go_sem]
      exact Wk.of (by simp only [go_sem, ↓List.forall_mem_cons, List.not_mem_nil, false_implies, implies_true, and_true, true_and, and_self, ri_eq, Int.natCast_add, Int.cast_ofNat_Int]; try simp) (by rw [cur_mid M hlt])
    refine SW.block ?_
    refine LoopW.loop (fun j : Nat => ⟨ofL [(0, .own ob 0 n cap 1 ex), (1, .val (.int .i64 0)), (2, .val (.int .i64 n)), (3, .clos (.func 80) [] [.optr cb 0]), (8, .val (.int .i64 i)), (9, .val (.int .i64 j))], H.set ob (some ⟨ints (mid M n i j), e0⟩)⟩) (fun j => j ≤ i ∧ down M (dOrd M i) (dg M i) i = down M (dOrd M i) (dg M i) j) (fun j => j) i ⟨Nat.le_refl _, rfl⟩ (Wk.of (by simp only [go_sem, ↓List.forall_mem_cons, List.not_mem_nil, false_implies, implies_true, and_true, true_and, and_self, ri_eq, Int.natCast_add, Int.cast_ofNat_Int]; try simp) rfl) ?_
    rintro j ⟨hj, hdn⟩
    have ml := mid_len M hlt hj
    have mil : (ints (mid M n i j)).length = n := by rw [ints_length, ml]
    have mj := mid_at M (n := n) hj
    have gj : (ints (mid M n i j))[j]? = some (.val (.int .i64 (i : Int))) := by rw [ints_get (by omega), mj]
    refine SW_of_vc Try.mixed _ _ _ (by kernel_rfl) ?_
    cases j with
    | zero =>
      have hdn : down M (dOrd M i) (dg M i) i = 0 := hdn
      have e := mid_cur M (n := n) (i := i)
      rw [hdn] at e
      simp (disch := omega) only [Try.ntmps136, Try.results136, go_sem, Heap.set_at]
      exact Wk.of (by simp only [go_sem, ↓List.forall_mem_cons, List.not_mem_nil, false_implies, implies_true, and_true, true_and, and_self, ri_eq, Int.natCast_add, Int.cast_ofNat_Int]; try simp) (by rw [e])
    | succ q =>
      have mq := mid_pred M (n := n) hj
      have gq : (ints (mid M n i (q + 1)))[q]? = some (.val (.int .i64 (((dOrd M i).getD q 0 : Nat) : Int))) := by rw [ints_get (by omega), mq]
      have xq := (oI_get M (i := i) (p := q) (by omega)).2
      have sw := mid_swap M (n := n) hj
      have hq1 : (((q + 1 : Nat) : Int)) - 1 = (q : Int) := by omega
      have hds : down M (dOrd M i) (dg M i) (q + 1) = if dg M ((dOrd M i).getD q 0) < dg M i then down M (dOrd M i) (dg M i) q else q + 1 := rfl
      have w := Try.degCmp_ok (dgs M n) i ((dOrd M i).getD q 0) (by omega) (by omega) (H.set ob (some ⟨ints (mid M n i (q + 1)), e0⟩)) cb sb scap ex2 e1 e2 (by rw [dl]; exact c1 _) (c2 _)
      rw [dgs_get M hlt, dgs_get M (by omega)] at w
      have e := mid_cur M (n := n) (i := i)
      generalize (dOrd M i).getD q 0 = x at *
      by_cases hlt2 : dg M x < dg M i
      · rw [if_pos hlt2] at hds
        have hc0 := cmpI_neg.2 hlt2
        generalize cmpI (dg M x) (dg M i) = cv at *
        simp (disch := omega) only [Try.ntmps136, Try.results136, go_sem, Heap.set_at, gj, gq, mil, hq1]
        refine ⟨_, w, ?_⟩
        simp (disch := omega) only [Try.ntmps136, Try.results136, go_sem, Heap.set_at, gj, gq, mil, hq1, Heap.set_set, ints_set, sw, ints_length, List.length_set, ml]
        exact ⟨q, ⟨by omega, by rw [hdn, hds]⟩, by omega, Wk.of (by simp only [go_sem, ↓List.forall_mem_cons, List.not_mem_nil, false_implies, implies_true, and_true, true_and, and_self, ri_eq, Int.natCast_add, Int.cast_ofNat_Int, hq1]; try simp) rfl⟩
      · rw [if_neg hlt2] at hds
        have hdn : down M (dOrd M i) (dg M i) i = q + 1 := by rw [hdn, hds]
        rw [hdn] at e
        have hc0 : ¬ cmpI (dg M x) (dg M i) < 0 := fun h => hlt2 (cmpI_neg.1 h)
        generalize cmpI (dg M x) (dg M i) = cv at *
        simp (disch := omega) only [Try.ntmps136, Try.results136, go_sem, Heap.set_at, gj, gq, mil, hq1]
        refine ⟨_, w, ?_⟩
        simp (disch := omega) only [Try.ntmps136, Try.results136, go_sem, Heap.set_at, gj, gq, mil, hq1]
        exact Wk.of (by simp only [go_sem, ↓List.forall_mem_cons, List.not_mem_nil, false_implies, implies_true, and_true, true_and, and_self, ri_eq, Int.natCast_add, Int.cast_ofNat_Int]; try simp) (by rw [e])
  refine SW_of_vc Try.mixed _ _ _ (by kernel_rfl) ?_
  simp (disch := omega) only [Try.ntmps136, Try.results136, go_sem]
  exact ⟨i + 1, ⟨by omega, by omega⟩, by omega, Wk.of (by simp only [go_sem, ↓List.forall_mem_cons, List.not_mem_nil, false_implies, implies_true, and_true, true_and, and_self, ri_eq, Int.natCast_add, Int.cast_ofNat_Int]; try simp) rfl⟩

set_option maxHeartbeats 8000000 in
theorem Try.stableDeg_ok (M : List (List Int)) (n : Nat) (hn0 : 0 < n) (hn : n ≤ 8) (H : Heap) (ob cb sb cap scap : Nat) (ex ex2 e0 e1 e2 : Bool) (ho : H.map ob = some ⟨ints (allI n), e0⟩) (hc : H.map cb = some ⟨[.own sb 0 n scap 1 ex2], e1⟩) (hs : H.map sb = some ⟨ints (dgs M n), e2⟩) (h1 : ob ≠ cb) (h2 : ob ≠ sb) :
    CallS Try.prog 112 [.own ob 0 n cap 1 ex, .val (.int .i64 n), .clos (.func 80) [] [.optr cb 0]] H (fun r H' => r = .tup [] ∧ H' = H.set ob (some ⟨ints (oI M n), e0⟩)) := by
  have w := Try.insDeg_ok M n hn0 (by omega) H ob cb sb cap scap ex ex2 e0 e1 e2 ho hc hs h1 h2
  refine CallS.of_body Try.func112 rfl (by kernel_rfl) (by simp [Try.ntmps112]) ?_
  refine SW_of_vc Try.mixed _ _ _ (by kernel_rfl) ?_
  simp (disch := omega) only [Try.ntmps112, Try.results112, go_sem]
  refine LoopW.loop (fun _ : Unit => ⟨ofL [(0, .own ob 0 n cap 1 ex), (1, .val (.int .i64 n)), (2, .clos (.func 80) [] [.optr cb 0]), (6, .val (.int .i64 20)), (7, .val (.int .i64 0)), (8, .val (.int .i64 20))], H⟩) (fun _ => True) (fun _ => 0) () trivial (Wk.of (by simp only [go_sem, ↓List.forall_mem_cons, List.not_mem_nil, false_implies, implies_true, and_true, true_and, and_self, ri_eq, Int.natCast_add, Int.cast_ofNat_Int]; try simp) rfl) ?_
  intro _ _
  refine SW_of_vc Try.mixed _ _ _ (by kernel_rfl) ?_
  simp (disch := omega) only [Try.ntmps112, Try.results112, go_sem]
  refine w.callDet ?_
  simp (disch := omega) only [Try.ntmps112, Try.results112, go_sem]
  refine LoopW.loop (fun _ : Unit => ⟨ofL [(0, .own ob 0 n cap 1 ex), (1, .val (.int .i64 n)), (2, .clos (.func 80) [] [.optr cb 0]), (6, .val (.int .i64 20)), (7, .val (.int .i64 0)), (8, .val (.int .i64 20))], H.set ob (some ⟨ints (oI M n), e0⟩)⟩) (fun _ => True) (fun _ => 0) () trivial (Wk.of (by simp only [go_sem, ↓List.forall_mem_cons, List.not_mem_nil, false_implies, implies_true, and_true, true_and, and_self, ri_eq, Int.natCast_add, Int.cast_ofNat_Int]; try simp) rfl) ?_
  intro _ _
  refine SW_of_vc Try.mixed _ _ _ (by kernel_rfl) ?_
  simp (disch := omega) only [Try.ntmps112, Try.results112, go_sem]
theorem Try.sortDeg_ok (M : List (List Int)) (n : Nat) (hn0 : 0 < n) (hn : n ≤ 8) (H : Heap) (ob cb sb cap scap : Nat) (ex ex2 e0 e1 e2 : Bool) (ho : H.map ob = some ⟨ints (allI n), e0⟩) (hc : H.map cb = some ⟨[.own sb 0 n scap 1 ex2], e1⟩) (hs : H.map sb = some ⟨ints (dgs M n), e2⟩) (h1 : ob ≠ cb) (h2 : ob ≠ sb) :
    CallS Try.prog 79 [.own ob 0 n cap 1 ex, .clos (.func 80) [] [.optr cb 0]] H (fun r H' => r = .tup [] ∧ H' = H.set ob (some ⟨ints (oI M n), e0⟩)) := by
  have w := Try.stableDeg_ok M n hn0 hn H ob cb sb cap scap ex ex2 e0 e1 e2 ho hc hs h1 h2
  refine CallS.of_body Try.func79 rfl (by kernel_rfl) (by simp [Try.ntmps79]) ?_
  refine SW_of_vc Try.mixed _ _ _ (by kernel_rfl) ?_
  simp (disch := omega) only [Try.ntmps79, Try.results79, go_sem]
  refine w.callDet ?_
  simp (disch := omega) only [Try.ntmps79, Try.results79, go_sem]

/-! ### The degrees -/
def sm (M : List (List Int)) (i : Nat) (c : Int) : List Int := (List.range M.length).map fun x => if x < i then dg M x else if x = i then c else 0
theorem sm_len (M : List (List Int)) (i : Nat) (c : Int) : (sm M i c).length = M.length := by simp [sm]
theorem sm_at (M : List (List Int)) {i : Nat} (h : i < M.length) (c : Int) : (sm M i c).getD i 0 = c := by simp [sm, h]
theorem sm_set (M : List (List Int)) {i : Nat} (c d : Int) : (sm M i c).set i d = sm M i d := by
  apply List.ext_getElem?
  intro x
  simp only [sm, List.getElem?_set, List.getElem?_map, List.length_map, List.length_range]
  by_cases hx : x < M.length
  · rw [List.getElem?_range hx]
    by_cases h : i = x
    · subst h; simp [hx]
    · simp [h, Ne.symm h]
  · rw [List.getElem?_eq_none (by simp; omega)]
    by_cases h : i = x
    · subst h; simp [hx]
    · simp [h]
theorem sm_next (M : List (List Int)) (i : Nat) : sm M i (dg M i) = sm M (i + 1) 0 := by
  apply List.map_congr_left
  intro x _
  by_cases h : x = i
  · subst h; simp
  · by_cases h2 : x < i
    · simp [h2, show x < i + 1 by omega]
    · simp [h, h2, show ¬ x < i + 1 by omega]
theorem sm_zero (M : List (List Int)) : sm M 0 0 = List.replicate M.length 0 := by
  apply List.ext_getElem <;> simp [sm]
theorem sm_all (M : List (List Int)) : sm M M.length 0 = dgs M M.length := by
  apply List.map_congr_left
  intro x hx
  simp at hx; simp [hx]

set_option maxRecDepth 20000 in
set_option maxHeartbeats 8000000 in
theorem Try.implDeg_f (M : List (List Int)) (hM : M.length ≤ 1048576) (hR : ∀ i, i < M.length → (mrow M i).length ≤ 1048576) (hw : WM M) : FCall Try.prog 27 [rr M] (FlatRes M.length 1 (ints (oI M M.length))) := by
  have w1 := Try.implIsWM_ok M hM hR
  rw [isWM_t hw] at w1
  have hn8 := hw.1
  refine FCall.of_body Try.func27 rfl (by kernel_rfl) (by simp [Try.ntmps27]) ?_
  refine SW_of_vc Try.mixed _ _ _ (by kernel_rfl) ?_
  simp (disch := omega) only [Try.ntmps27, Try.results27, go_sem, rr_eq]
  refine w1.callV 0 (viewL_cons_of (view_row) viewL_nil_of) ?_
  simp (disch := omega) only [Try.ntmps27, Try.results27, go_sem, rr_eq]
  refine LoopW.loop (fun i : Nat => ⟨ofL [(0, rr M), (3, .optr 1 0), (15, rr M), (16, .val (.int .i64 M.length)), (17, .val (.int .i64 i))], hp [(1, ⟨[.own 0 0 M.length M.length 1 true], true⟩), (0, ⟨ints (sm M i 0), true⟩)] 2⟩) (fun i => i ≤ M.length) (fun i => M.length - i) 0 (by omega) (Wk.of (by simp only [go_sem, ↓List.forall_mem_cons, List.not_mem_nil, false_implies, implies_true, and_true, true_and, and_self, ri_eq, Int.natCast_add, Int.cast_ofNat_Int, rr_eq]; try simp) (by rw [sm_zero])) ?_
  intro i hi
  refine SW_of_vc Try.mixed _ _ _ (by kernel_rfl) ?_
  by_cases hlt : i < M.length
  · have ro := hw.2.1 i hlt
    have gr : (rows M)[i]? = some (.row M.length false (ints (mrow M i))) := by rw [rows_get hlt, ro]
    have rl : (rows M).length = M.length := by simp [rows]
    have hr : ∀ k, k < M.length → (-1000 ≤ mat M i k ∧ mat M i k ≤ 1000) := fun k hk => (hw.2.2.1 i k hlt hk).1
    have hdr : ∀ k, k ≤ M.length → 0 ≤ dgTo M i k ∧ dgTo M i k ≤ 1000 * k := fun k hk => dgTo_r hw hlt k hk
    simp (disch := omega) only [Try.ntmps27, Try.results27, go_sem, rr_eq, gr, rl]
    refine LoopW.loop (fun k : Nat => ⟨ofL [(0, rr M), (3, .optr 1 0), (4, .val (.int .i64 i)), (15, rr M), (16, .val (.int .i64 M.length)), (17, .val (.int .i64 i)), (22, .row M.length false (ints (mrow M i))), (23, .val (.int .i64 M.length)), (24, .val (.int .i64 k))], hp [(1, ⟨[.own 0 0 M.length M.length 1 true], true⟩), (0, ⟨ints (sm M i (dgTo M i k)), true⟩)] 2⟩) (fun k => k ≤ M.length) (fun k => M.length - k) 0 (by omega) (Wk.of (by simp only [go_sem, ↓List.forall_mem_cons, List.not_mem_nil, false_implies, implies_true, and_true, true_and, and_self, ri_eq, Int.natCast_add, Int.cast_ofNat_Int, rr_eq]; try simp) (by rfl)) ?_
    intro k hk
    have hdk := hdr k hk
    have sl : (ints (sm M i (dgTo M i k))).length = M.length := by rw [ints_length, sm_len]
    have sg : (ints (sm M i (dgTo M i k)))[i]? = some (.val (.int .i64 (dgTo M i k))) := by rw [ints_get (by rw [sm_len]; exact hlt), sm_at M hlt]
    refine SW_of_vc Try.mixed _ _ _ (by kernel_rfl) ?_
    by_cases hltk : k < M.length
    · have g := hr k hltk
      have gk : (ints (mrow M i))[k]? = some (.val (.int .i64 (mat M i k))) := ints_get' ro hltk
      have hil : (ints (mrow M i)).length = M.length := by rw [ints_length, ro]
      have hs : dgTo M i (k + 1) = dgTo M i k + (if mat M i k < 0 then 0 else mat M i k) := rfl
      by_cases hneg : mat M i k < 0
      · rw [if_pos hneg, Int.add_zero] at hs
        simp (disch := omega) only [Try.ntmps27, Try.results27, go_sem, rr_eq, gr, rl, gk, hil, sl, sg, ints_set, sm_set]
        exact ⟨k + 1, by omega, by omega, Wk.of (by simp only [go_sem, ↓List.forall_mem_cons, List.not_mem_nil, false_implies, implies_true, and_true, true_and, and_self, ri_eq, Int.natCast_add, Int.cast_ofNat_Int, rr_eq, hs]; try simp) (by rw [hs, Int.add_zero])⟩
      · rw [if_neg hneg] at hs
        simp (disch := omega) only [Try.ntmps27, Try.results27, go_sem, rr_eq, gr, rl, gk, hil, sl, sg, ints_set, sm_set]
        exact ⟨k + 1, by omega, by omega, Wk.of (by simp only [go_sem, ↓List.forall_mem_cons, List.not_mem_nil, false_implies, implies_true, and_true, true_and, and_self, ri_eq, Int.natCast_add, Int.cast_ofNat_Int, rr_eq, hs]; try simp) (by rw [hs])⟩
    · obtain rfl : k = M.length := by omega
      have e : sm M i (dgTo M i M.length) = sm M (i + 1) 0 := sm_next M i
      simp (disch := omega) only [Try.ntmps27, Try.results27, go_sem, rr_eq]
      exact ⟨i + 1, by omega, by omega, Wk.of (by simp only [go_sem, ↓List.forall_mem_cons, List.not_mem_nil, false_implies, implies_true, and_true, true_and, and_self, ri_eq, Int.natCast_add, Int.cast_ofNat_Int, rr_eq]; try simp) (by rw [← e])⟩
  · obtain rfl : i = M.length := by omega
    have e := sm_all M
    have wf := Try.allItems_f M.length hn8.1 hn8.2
    simp (disch := omega) only [Try.ntmps27, Try.results27, go_sem, rr_eq]
    refine wf.one.callOne (ints_vals _) 0 (viewL_cons_of (view_int) viewL_nil_of) ?_
    simp (disch := omega) only [Try.ntmps27, Try.results27, go_sem, rr_eq]
    refine (Try.sortDeg_ok M M.length hn8.1 hn8.2 _ 2 1 0 M.length M.length false true false true true (by rfl) (by rfl) (by rw [← e]; rfl) (by omega) (by omega)).callDet ?_
    simp (disch := omega) only [Try.ntmps27, Try.results27, go_sem, rr_eq]
    exact fin_ints (oI_len M M.length).symm (by rfl)
theorem Try.implDeg_n (M : List (List Int)) (hM : M.length ≤ 1048576) (hR : ∀ i, i < M.length → (mrow M i).length ≤ 1048576) (hw : ¬ WM M) : FCall Try.prog 27 [rr M] (fun r _ => r = .val (.slice none 0 0)) := by
  have w1 := Try.implIsWM_ok M hM hR
  rw [isWM_f hw] at w1
  refine FCall.of_body Try.func27 rfl (by kernel_rfl) (by simp [Try.ntmps27]) ?_
  refine SW_of_vc Try.mixed _ _ _ (by kernel_rfl) ?_
  simp (disch := omega) only [Try.ntmps27, Try.results27, go_sem, rr_eq]
  refine w1.callV 0 (viewL_cons_of (view_row) viewL_nil_of) ?_
  simp (disch := omega) only [Try.ntmps27, Try.results27, go_sem, rr_eq]
  exact Fin.val rfl
end Go.Sh

/-
  Contracts: DegreeOrder of the reference and of the program.
-/
namespace Go.Sh
set_option linter.unusedSimpArgs false
set_option linter.unusedVariables false
open Go Go.Proofs

open Classical in
noncomputable def degO (M : List (List Int)) : List Int := if WM M then oI M M.length else []
theorem degO_t {M : List (List Int)} (h : WM M) : degO M = oI M M.length := by rw [degO, if_pos h]
theorem degO_f {M : List (List Int)} (h : ¬ WM M) : degO M = [] := by rw [degO, if_neg h]
theorem degO_length {M : List (List Int)} (h : WM M) : (degO M).length = M.length := by rw [degO_t h, oI_len]
theorem Try.specDeg_not (M : List (List Int)) (hM : M.length ≤ 1048576) (hR : ∀ i, i < M.length → (mrow M i).length ≤ 1048576) (hw : ¬ WM M) : FCall Try.prog 25 [rr M] (FlatRes 0 1 (ints [])) := by
  have w1 := Try.specIsWM_ok M hM hR
  rw [isWM_f hw] at w1
  refine FCall.of_body Try.func25 rfl (by kernel_rfl) (by simp [Try.ntmps25]) ?_
  refine SW.seqW ⟨ofL [(0, rr M)], hp [] 0⟩ ?_ ?_
  · refine SW_of_vc Try.mixed _ _ _ (by kernel_rfl) ?_
    simp (disch := omega) only [Try.ntmps25, Try.results25, go_sem, rr_eq, rep_zero0]
    exact Wk.of (by simp only [go_sem, ↓List.forall_mem_cons, List.not_mem_nil, false_implies, implies_true, and_true, true_and, and_self, ri_eq, Int.natCast_add, Int.cast_ofNat_Int, rr_eq]; try simp) rfl
  refine SW.seqW ⟨ofL [(0, rr M), (3, .own 0 0 0 0 1 false)], hp [(0, ⟨[], false⟩)] 1⟩ ?_ ?_
  · refine SW_of_vc Try.mixed _ _ _ (by kernel_rfl) ?_
    simp (disch := omega) only [Try.ntmps25, Try.results25, go_sem, rr_eq, rep_zero0]
    exact Wk.of (by simp only [go_sem, ↓List.forall_mem_cons, List.not_mem_nil, false_implies, implies_true, and_true, true_and, and_self, ri_eq, Int.natCast_add, Int.cast_ofNat_Int, rr_eq]; try simp) rfl
  refine SW.seqI (fun _ : Unit => ⟨ofL [], hp [] 0⟩) (fun _ => False) ?_ (fun _ h => h.elim)
  refine SW_of_vc Try.mixed _ _ _ (by kernel_rfl) ?_
  simp (disch := omega) only [Try.ntmps25, Try.results25, go_sem, rr_eq, rep_zero0]
  refine w1.callV 0 (viewL_cons_of (view_row) viewL_nil_of) ?_
  simp (disch := omega) only [Try.ntmps25, Try.results25, go_sem, rr_eq, rep_zero0]
  exact fin_ints (L := []) (e2 := false) rfl (by simp [hp, hmap, ints])
theorem Try.specDeg_ok (M : List (List Int)) (hM : M.length ≤ 1048576) (hR : ∀ i, i < M.length → (mrow M i).length ≤ 1048576) : PCall Try.prog 25 [rr M] (ri (degO M)) := by
  by_cases h : WM M
  · have w := (Try.specDeg_f M hM hR h).one
    rw [← degO_t h] at w
    exact w.pcall 2 (fun _ _ g => one_view g (degO_length h).symm)
  · rw [degO_f h]; exact (Try.specDeg_not M hM hR h).pcall 2 (fun _ _ h => flat_view h)
theorem Try.implDeg_one (M : List (List Int)) (hM : M.length ≤ 1048576) (hR : ∀ i, i < M.length → (mrow M i).length ≤ 1048576) (h : WM M) : FCall Try.prog 27 [rr M] (OneRes M.length 1 (ints (degO M))) := by
  rw [degO_t h]; exact (Try.implDeg_f M hM hR h).one
theorem Try.implDeg_ok (M : List (List Int)) (hM : M.length ≤ 1048576) (hR : ∀ i, i < M.length → (mrow M i).length ≤ 1048576) : PCall Try.prog 27 [rr M] (ri (degO M)) := by
  by_cases h : WM M
  · exact (Try.implDeg_one M hM hR h).pcall 2 (fun _ _ g => one_view g (degO_length h).symm)
  · rw [degO_f h]; exact (Try.implDeg_n M hM hR h).pcall 0 (by rintro r H rfl; exact view_nil)
end Go.Sh

/-
  Labels by first occurrence are a partition.
-/
namespace Go.Sh
set_option linter.unusedSimpArgs false
set_option linter.unusedVariables false
open Go Go.Proofs

def nxt : Int → List Int → Int
  | nx, [] => nx
  | nx, x :: l => nxt (max nx (x + 1)) l
theorem okP_append : ∀ (A : List Int) (nx x : Int), okP nx (A ++ [x]) = (okP nx A && inR x 0 (nxt nx A))
  | [], nx, x => by simp [okP, nxt]
  | a :: A, nx, x => by
    rw [List.cons_append, okP, okP_append A, okP, nxt, Bool.and_assoc]
theorem nxt_append : ∀ (A : List Int) (nx x : Int), nxt nx (A ++ [x]) = max (nxt nx A) (x + 1)
  | [], nx, x => by simp [nxt]
  | a :: A, nx, x => by rw [List.cons_append, nxt, nxt_append A, nxt]
theorem cst_ok (X : List Int) : ∀ k, k ≤ X.length → okP 0 (cst (X.take k)).2 = true ∧ nxt 0 (cst (X.take k)).2 = (cst (X.take k)).1.length
  | 0, _ => by simp [cst_zero, okP, nxt]
  | k + 1, hk => by
    obtain ⟨h1, h2⟩ := cst_ok X k (by omega)
    rw [cst_succ (L := X) (by omega)]
    generalize cst (X.take k) = st at *
    obtain ⟨S, O⟩ := st
    simp only at h1 h2 ⊢
    unfold cstep
    simp only
    by_cases hx : X.getD k 0 ∈ S
    · rw [if_pos hx]
      have i1 := idx_nonneg hx
      have i2 : idx (X.getD k 0) S < S.length := by
        rcases idx_lt (x := X.getD k 0) (L := S) with h | h
        · exact h
        · rw [h] at hx; simp at hx
      refine ⟨?_, ?_⟩
      · show okP 0 (O ++ [idx (X.getD k 0) S]) = true
        rw [okP_append, h1, h2, inR_tt i1 (by omega)]; rfl
      · show nxt 0 (O ++ [idx (X.getD k 0) S]) = (S.length : Int)
        rw [nxt_append, h2]; omega
    · rw [if_neg hx]
      refine ⟨?_, ?_⟩
      · show okP 0 (O ++ [(S.length : Int)]) = true
        rw [okP_append, h1, h2, inR_tt (by omega) (by omega)]; rfl
      · show nxt 0 (O ++ [(S.length : Int)]) = ((S ++ [X.getD k 0]).length : Int)
        rw [nxt_append, h2, List.length_append]
        simp only [List.length_cons, List.length_nil]
        omega
theorem canon_isPart {X : List Int} (h1 : 1 ≤ X.length) (h2 : X.length ≤ 8) : isPart (canon X) = true := by
  have := (cst_ok X X.length (Nat.le_refl _)).1
  rw [List.take_length] at this
  rw [isPart, canon_length, inR_tt (by omega) (by omega)]
  show (okP 0 (cst X).2 && true) = true
  rw [this]; rfl
end Go.Sh

/-
  Shortest ways along must-link constraints: plain.
-/
namespace Go.Sh
set_option linter.unusedSimpArgs false
set_option linter.unusedVariables false
open Go Go.Proofs

def adjC (C : List Con) (x y : Nat) : Prop := ∃ c ∈ C, c.2.2 = true ∧ ((c.1 = (x : Int) ∧ c.2.1 = (y : Int)) ∨ (c.1 = (y : Int) ∧ c.2.1 = (x : Int)))
theorem adjC_symm {C : List Con} {x y : Nat} (h : adjC C x y) : adjC C y x := by
  obtain ⟨c, h1, h2, h3⟩ := h
  exact ⟨c, h1, h2, h3.symm⟩
/-- x is reached from b in at most k steps. -/
def rk (C : List Con) (b : Nat) : Nat → Nat → Prop
  | 0, x => x = b
  | k + 1, x => rk C b k x ∨ ∃ y, rk C b k y ∧ adjC C y x
def IsD (C : List Con) (b x d : Nat) : Prop := rk C b d x ∧ ∀ e, e < d → ¬ rk C b e x
theorem rk_mono {C : List Con} {b x k : Nat} (h : rk C b k x) : ∀ {j : Nat}, k ≤ j → rk C b j x := by
  intro j hj
  induction hj with
  | refl => exact h
  | step _ ih => exact .inl ih
theorem isD_uniq {C : List Con} {b x d e : Nat} (h1 : IsD C b x d) (h2 : IsD C b x e) : d = e := by
  rcases Nat.lt_trichotomy d e with h | h | h
  · exact absurd h1.1 (h2.2 d h)
  · exact h
  · exact absurd h2.1 (h1.2 e h)
theorem isD_of {C : List Con} {b x : Nat} : ∀ k, rk C b k x → ∃ d, d ≤ k ∧ IsD C b x d
  | 0, h => ⟨0, Nat.le_refl _, h, fun e he => by omega⟩
  | k + 1, h => by
    by_cases g : rk C b k x
    · obtain ⟨d, h1, h2⟩ := isD_of k g
      exact ⟨d, by omega, h2⟩
    · exact ⟨k + 1, Nat.le_refl _, h, fun e he h2 => g (rk_mono h2 (by omega))⟩
theorem isD_prev {C : List Con} {b x d : Nat} (h : IsD C b x (d + 1)) : ∃ y, IsD C b y d ∧ adjC C y x := by
  rcases h.1 with g | ⟨y, g1, g2⟩
  · exact absurd g (h.2 d (by omega))
  · exact ⟨y, ⟨g1, fun e he h2 => h.2 (e + 1) (by omega) (.inr ⟨y, h2, g2⟩)⟩, g2⟩
/-- A distance is followed by a greater one by one step at most. -/
theorem isD_next {C : List Con} {b x y d : Nat} (h : IsD C b x d) (ha : adjC C x y) : ∃ e, e ≤ d + 1 ∧ IsD C b y e := isD_of (d + 1) (.inr ⟨x, h.1, ha⟩)
theorem isD_zero {C : List Con} {b x : Nat} : IsD C b x 0 ↔ x = b := ⟨fun h => h.1, fun h => ⟨h, fun e he => by omega⟩⟩
/-- Every distance is less than the number of items. -/
theorem isD_path {C : List Con} {b : Nat} : ∀ d x, IsD C b x d → ∃ l : List Nat, l.length = d + 1 ∧ l.Nodup ∧ ∀ y ∈ l, ∃ e, e ≤ d ∧ IsD C b y e
  | 0, x, h => ⟨[x], rfl, by simp, fun y hy => by simp at hy; subst hy; exact ⟨0, Nat.le_refl _, h⟩⟩
  | d + 1, x, h => by
    obtain ⟨y, h1, h2⟩ := isD_prev h
    obtain ⟨l, e1, e2, e3⟩ := isD_path d y h1
    refine ⟨x :: l, by simp [e1], List.nodup_cons.2 ⟨fun hx => ?_, e2⟩, fun z hz => ?_⟩
    · obtain ⟨e, he, h3⟩ := e3 x hx
      have := isD_uniq h h3; omega
    · rcases List.mem_cons.1 hz with rfl | hz
      · exact ⟨d + 1, Nat.le_refl _, h⟩
      · obtain ⟨e, he, h3⟩ := e3 z hz
        exact ⟨e, by omega, h3⟩
theorem rk_lt {C : List Con} {b n : Nat} (hb : b < n) (ha : ∀ x y, adjC C x y → y < n) : ∀ k x, rk C b k x → x < n
  | 0, x, h => by have : x = b := h; omega
  | k + 1, x, h => by
    rcases h with h | ⟨y, _, h⟩
    · exact rk_lt hb ha k x h
    · exact ha y x h
theorem nodup_le : ∀ (n : Nat) (l : List Nat), l.Nodup → (∀ y ∈ l, y < n) → l.length ≤ n
  | 0, l, _, h => by
    cases l with
    | nil => simp
    | cons a l => have := h a (by simp); omega
  | n + 1, l, hd, h => by
    have ih := nodup_le n (l.erase n) (hd.erase n) (fun y hy => by
      have h1 := h y (List.mem_of_mem_erase hy)
      have h2 : y ≠ n := fun e => by subst e; exact (hd.not_mem_erase) hy
      omega)
    rw [List.length_erase] at ih
    split at ih <;> omega
theorem isD_lt {C : List Con} {b n x d : Nat} (hb : b < n) (ha : ∀ x y, adjC C x y → y < n) (h : IsD C b x d) : d < n := by
  obtain ⟨l, e1, e2, e3⟩ := isD_path d x h
  have := nodup_le n l e2 fun y hy => by
    obtain ⟨e, _, h2⟩ := e3 y hy
    exact rk_lt hb ha e y h2.1
  omega
/-- A list of distances, -1 where there is no way; there is one such list. -/
def FarL (n : Nat) (C : List Con) (b : Nat) (F : List Int) : Prop := F.length = n ∧ ∀ x, x < n → (F.getD x 0 = -1 ∧ ∀ d, ¬ rk C b d x) ∨ ∃ d : Nat, F.getD x 0 = (d : Int) ∧ IsD C b x d
theorem FarL.uniq {n : Nat} {C : List Con} {b : Nat} {F G : List Int} (h1 : FarL n C b F) (h2 : FarL n C b G) : F = G := by
  refine List.ext_getElem (by rw [h1.1, h2.1]) fun i hi hj => ?_
  have e1 : F.getD i 0 = F[i] := by simp [hi]
  have e2 : G.getD i 0 = G[i] := by simp [hj]
  have hin : i < n := by have := h1.1; omega
  rcases h1.2 i hin with ⟨g1, g2⟩ | ⟨d, g1, g2⟩
  · rcases h2.2 i hin with ⟨f1, _⟩ | ⟨e, f1, f2⟩
    · rw [← e1, ← e2, g1, f1]
    · exact absurd f2.1 (g2 e)
  · rcases h2.2 i hin with ⟨_, f2⟩ | ⟨e, f1, f2⟩
    · exact absurd g2.1 (f2 d)
    · rw [← e1, ← e2, g1, f1, isD_uniq g2 f2]
end Go.Sh

/-
  Best partitions: plain facts.
-/
namespace Go.Sh
set_option linter.unusedSimpArgs false
set_option linter.unusedVariables false
open Go Go.Proofs

theorem pcost_t {M : List (List Int)} {L : List Int} (hw : WM M) (hp : isPart L = true) (hl : L.length = M.length) : pcost M L = cc M L L.length := by rw [pcost, if_pos ⟨isWM_t hw, hp, hl⟩]
theorem pcost_nn {M : List (List Int)} {L : List Int} (h : 0 ≤ pcost M L) : isPart L = true ∧ L.length = M.length ∧ pcost M L = cc M L L.length := by
  unfold pcost at h ⊢
  split at h
  · rename_i g
    exact ⟨g.2.1, g.2.2, if_pos g⟩
  · omega
theorem okB_least {M : List (List Int)} {C : List Con} {L : List Int} (h : okB M C) (hk : C.all (kp L) = true) (hc : 0 ≤ pcost M L) : (bs M C).least ≤ pcost M L := by
  obtain ⟨h1, h2, h3⟩ := pcost_nn hc
  rw [h3, h2]
  rw [isPart, Bool.and_eq_true] at h1
  exact (bs_least h.1 h2 h1.1 hk).2
theorem okB_facts {M : List (List Int)} {C : List Con} (h : okB M C) : (isPart (bs M C).first && C.all (kp (bs M C).first)) = true ∧ pcost M (bs M C).first = (bs M C).least ∧ isOpt M C (bs M C).first = true ∧ 0 ≤ ccost M C ∧ 0 < bCount M C := by
  obtain ⟨b1, b2, b3, b4, b5⟩ := (bs_best (C := C) h.1).ok (bs_ok h.1 h.2)
  have hln := h.1.1
  have hl0 := bs_ok h.1 h.2
  have hp : isPart (bs M C).first = true := by
    rw [isPart, b2, b1]; simp [inR]; omega
  have hpc : pcost M (bs M C).first = (bs M C).least := by rw [pcost_t h.1 hp b1, b1, b4]
  have hk : (isPart (bs M C).first && C.all (kp (bs M C).first)) = true := by rw [hp, b3]; rfl
  have hn : okB M [] := ⟨h.1, by
    have ha : areCons M.length [] = true := by simp [areCons, inR]; omega
    rw [isCst, ha, conflict_t ha]; simp [fidx]⟩
  refine ⟨hk, hpc, ?_, ?_, ?_⟩
  · rw [isOpt_t h, hk, hpc]; simp
  · have := okB_least (C := []) (L := (bs M C).first) hn (by simp) (by omega)
    rw [ccost, bCost_t h, bCost_t hn, if_neg (by omega)]
    omega
  · rw [bCount_t h]; omega
end Go.Sh

/-
  Pivot partitions and orders by degrees: plain facts.
-/
namespace Go.Sh
set_option linter.unusedSimpArgs false
set_option linter.unusedVariables false
open Go Go.Proofs

theorem canon_eq {X : List Int} {i k : Nat} (hi : i < X.length) (hk : k < X.length) (h : X.getD i 0 = X.getD k 0) : (canon X).getD i 0 = (canon X).getD k 0 := by
  have := (cst_spec X X.length (Nat.le_refl _)).1
  rw [List.take_length] at this
  rw [canon, (this i hi).2, (this k hk).2, h]
theorem pv_inv {M : List (List Int)} {O : List Int} (hO : ∀ k, k < O.length → 0 ≤ O.getD k 0 ∧ O.getD k 0 < M.length) : ∀ i, i ≤ O.length → ∀ x, x < M.length → 0 ≤ (pv M O i).getD x 0 →
    ∃ p : Nat, p < M.length ∧ O.getD ((pv M O i).getD x 0).toNat 0 = p ∧ (pv M O i).getD p 0 = (pv M O i).getD x 0 ∧ (x = p ∨ 0 < mat M p x)
  | 0, _, x, hx, h => by rw [pv, getD_rep hx] at h; simp at h
  | i + 1, hi, x, hx, h => by
    obtain ⟨p0, hp0⟩ := Int.eq_ofNat_of_zero_le (hO i (by omega)).1
    have hp0M : p0 < M.length := by have := (hO i (by omega)).2; omega
    by_cases hs : 0 ≤ (pv M O i).getD p0 0
    · rw [pv_skip hp0 hs] at h ⊢
      exact pv_inv hO i (by omega) x hx h
    · have e := pv_step (M := M) hp0 (by omega)
      have at_ : ∀ z, z < M.length → (pv M O (i + 1)).getD z 0 = if (pv M O i).getD z 0 < 0 ∧ (z = p0 ∨ 0 < mat M p0 z) then (i : Int) else (pv M O i).getD z 0 := fun z hz => by rw [e, gen_at hz]
      rw [at_ x hx] at h ⊢
      by_cases hc : (pv M O i).getD x 0 < 0 ∧ (x = p0 ∨ 0 < mat M p0 x)
      · rw [if_pos hc] at h ⊢
        refine ⟨p0, hp0M, by simpa using hp0, ?_, hc.2⟩
        rw [at_ p0 hp0M, if_pos ⟨by omega, .inl rfl⟩]
      · rw [if_neg hc] at h ⊢
        obtain ⟨p, h1, h2, h3, h4⟩ := pv_inv hO i (by omega) x hx h
        refine ⟨p, h1, h2, ?_, h4⟩
        rw [at_ p h1, if_neg (by omega), h3]
theorem pv_all {M : List (List Int)} {O : List Int} (hO : ∀ k, k < O.length → 0 ≤ O.getD k 0 ∧ O.getD k 0 < M.length) : ∀ i, i ≤ O.length → ∀ k, k < i → 0 ≤ (pv M O i).getD (O.getD k 0).toNat 0
  | 0, _, k, hk => by omega
  | i + 1, hi, k, hk => by
    obtain ⟨p0, hp0⟩ := Int.eq_ofNat_of_zero_le (hO i (by omega)).1
    have hp0M : p0 < M.length := by have := (hO i (by omega)).2; omega
    obtain ⟨z, hz⟩ := Int.eq_ofNat_of_zero_le (hO k (by omega)).1
    have hzM : z < M.length := by have := (hO k (by omega)).2; omega
    rw [hz, Int.toNat_natCast]
    by_cases hs : 0 ≤ (pv M O i).getD p0 0
    · rw [pv_skip hp0 hs]
      rcases Nat.lt_succ_iff_lt_or_eq.mp hk with h | rfl
      · have := pv_all hO i (by omega) k h
        rw [hz, Int.toNat_natCast] at this; exact this
      · have : p0 = z := by rw [hp0] at hz; exact_mod_cast hz
        subst this; exact hs
    · rw [pv_step (M := M) hp0 (by omega), gen_at hzM]
      split
      · omega
      · rcases Nat.lt_succ_iff_lt_or_eq.mp hk with h | rfl
        · have := pv_all hO i (by omega) k h
          rw [hz, Int.toNat_natCast] at this; exact this
        · rename_i hn
          have : p0 = z := by rw [hp0] at hz; exact_mod_cast hz
          subst this; exact absurd ⟨by omega, .inl rfl⟩ hn
theorem ord_surj {n : Nat} {O : List Int} (h : isOrd n O = true) {x : Nat} (hx : x < n) : ∃ k, k < O.length ∧ O.getD k 0 = (x : Int) := by
  obtain ⟨h1, h2, h3, h4⟩ := ord_t h
  by_cases hex : ∃ k, k < O.length ∧ O.getD k 0 = (x : Int)
  · exact hex
  exfalso
  have hnd : (O.map Int.toNat).Nodup := by
    rw [List.Nodup, List.pairwise_iff_getElem]
    intro i j hi hj hij
    simp at hi hj
    have := h4 i j hij hj
    have a1 := (h3 i (by omega)).1
    have a2 := (h3 j hj).1
    simp [List.getD_eq_getElem?_getD, show i < O.length by omega, hj] at this a1 a2 ⊢
    omega
  have hx' : x ∉ O.map Int.toNat := by
    intro hm
    obtain ⟨y, hy, e⟩ := List.mem_map.1 hm
    obtain ⟨k, hk, rfl⟩ := List.getElem_of_mem hy
    have a1 := (h3 k hk).1
    refine hex ⟨k, hk, ?_⟩
    simp [List.getD_eq_getElem?_getD, hk] at a1 ⊢
    omega
  have := nodup_le n (x :: O.map Int.toNat) (List.nodup_cons.2 ⟨hx', hnd⟩) (by
    intro y hy
    rcases List.mem_cons.1 hy with rfl | hy
    · exact hx
    · obtain ⟨z, hz, rfl⟩ := List.mem_map.1 hy
      obtain ⟨k, hk, rfl⟩ := List.getElem_of_mem hz
      have a1 := h3 k hk
      simp [List.getD_eq_getElem?_getD, hk] at a1
      omega)
  simp at this
  omega
theorem ord_lt {n : Nat} {O : List Int} (h : isOrd n O = true) : ∀ k, k < O.length → 0 ≤ O.getD k 0 ∧ O.getD k 0 < n := fun k hk => by
  have := (ord_t h).2.2.1 k hk; omega
/-- An item of a pivot partition is alone, or has a positive weight to one of its block. -/
theorem piv_good {M : List (List Int)} {O : List Int} (hw : WM M) (h : isOrd M.length O = true) {i : Nat} (hi : i < M.length) :
    (∀ j, j < M.length → i ≠ j → (piv M O).getD i 0 ≠ (piv M O).getD j 0) ∨ ∃ j, j < M.length ∧ i ≠ j ∧ (piv M O).getD i 0 = (piv M O).getD j 0 ∧ 0 < mat M i j := by
  have hO := ord_lt h
  have hl := pv_length M O O.length
  have hall : ∀ x, x < M.length → 0 ≤ (pv M O O.length).getD x 0 := fun x hx => by
    obtain ⟨k, hk, e⟩ := ord_surj h hx
    have := pv_all hO O.length (Nat.le_refl _) k hk
    rw [e, Int.toNat_natCast] at this; exact this
  have hsym : ∀ x y, x < M.length → y < M.length → mat M x y = mat M y x := fun x y hx hy => (hw.2.2.1 x y hx hy).2
  rw [piv_t ⟨hw, h⟩]
  obtain ⟨p, h1, h2, h3, h4⟩ := pv_inv hO O.length (Nat.le_refl _) i hi (hall i hi)
  by_cases hip : i = p
  · subst hip
    by_cases hex : ∃ j, j < M.length ∧ i ≠ j ∧ (canon (pv M O O.length)).getD i 0 = (canon (pv M O O.length)).getD j 0
    · obtain ⟨j, j1, j2, j3⟩ := hex
      have e := canon_inj (by omega) (by omega) j3
      obtain ⟨p', g1, g2, g3, g4⟩ := pv_inv hO O.length (Nat.le_refl _) j j1 (hall j j1)
      rw [← e, h2] at g2
      have : p' = i := by exact_mod_cast g2.symm
      subst this
      rcases g4 with g4 | g4
      · exact absurd g4.symm j2
      · exact .inr ⟨j, j1, j2, j3, g4⟩
    · exact .inl fun j j1 j2 j3 => hex ⟨j, j1, j2, j3⟩
  · rcases h4 with h4 | h4
    · exact absurd h4 hip
    · exact .inr ⟨p, h1, hip, canon_eq (by omega) (by omega) h3.symm, by rw [hsym i p hi h1]; exact h4⟩
theorem piv_isPart {M : List (List Int)} {O : List Int} (hw : WM M) (h : isOrd M.length O = true) : isPart (piv M O) = true := by
  rw [piv_t ⟨hw, h⟩]
  have hl := pv_length M O O.length
  have := hw.1
  exact canon_isPart (by omega) (by omega)
theorem bpv_piv {M : List (List Int)} (hw : WM M) : ∀ s, s ≤ M.length → (s = 0 ∨ ∃ t, t < M.length ∧ (bpv M s).1 = piv M (rot M.length t M.length) ∧ (bpv M s).2 = cc M (piv M (rot M.length t M.length)) M.length)
  | 0, _ => .inl rfl
  | s + 1, hs => by
    right
    rw [bpv]
    split
    · exact ⟨s, by omega, rfl, rfl⟩
    · rename_i h
      rcases bpv_piv hw s (by omega) with rfl | ih
      · simp [bpv] at h
      · exact ih
theorem bp_facts {M : List (List Int)} (hw : WM M) : isPart (bp M).1 = true ∧ pcost M (bp M).1 = (bp M).2 ∧ 0 ≤ (bp M).2 ∧ bCost M [] ≤ (bp M).2 := by
  have hn := hw.1
  rw [bp_t hw]
  rcases bpv_piv hw M.length (Nat.le_refl _) with h | ⟨t, ht, e1, e2⟩
  · omega
  · rw [e1, e2]
    have ho := rot_ord (n := M.length) (s := t) hn.1 hn.2 ht
    have hp := piv_isPart hw ho
    have hl := piv_length ⟨hw, ho⟩
    have hb := cc_b (L := piv M (rot M.length t M.length)) hw M.length (Nat.le_refl _)
    have hpc := pcost_t hw hp hl
    rw [hl] at hpc
    refine ⟨hp, hpc, hb.1, ?_⟩
    have ha : areCons M.length [] = true := by simp [areCons, inR]; omega
    have hk : okB M [] := ⟨hw, by rw [isCst, ha, conflict_t ha]; simp [fidx]⟩
    have := okB_least (L := piv M (rot M.length t M.length)) hk (by simp) (by rw [hpc]; exact hb.1)
    rw [bCost_t hk, ← hpc]; exact this
theorem dOrd_nodup (M : List (List Int)) : ∀ i, (dOrd M i).Nodup
  | 0 => by simp [dOrd]
  | i + 1 => by
    have ih := dOrd_nodup M i
    have hlt := dOrd_lt M i
    rw [dOrd]
    generalize down M (dOrd M i) (dg M i) (dOrd M i).length = q
    have hp : ((dOrd M i).take q ++ i :: (dOrd M i).drop q).Perm (i :: dOrd M i) := by
      refine List.perm_middle.trans ?_
      rw [List.take_append_drop]
    rw [hp.nodup_iff, List.nodup_cons]
    exact ⟨fun h => by have := hlt i h; omega, ih⟩
theorem ord_of {n : Nat} {L : List Int} (h0 : 1 ≤ n ∧ n ≤ 8) (hl : L.length = n) (hr : ∀ k, k < L.length → 0 ≤ L.getD k 0 ∧ L.getD k 0 < n) (hd : L.Nodup) : isOrd n L = true := by
  have hs : ∀ d k, k + d = L.length → okO n (L.take k) (L.drop k) = true := by
    intro d
    induction d with
    | zero => intro k hk; rw [List.drop_of_length_le (by omega)]; rfl
    | succ d ih =>
      intro k hk
      have hkl : k < L.length := by omega
      rw [okO_step hkl, ih (k + 1) (by omega)]
      have hr := hr k hkl
      have hnot : (L.take k).contains (L.getD k 0) = false := by
        cases hc : (L.take k).contains (L.getD k 0) with
        | false => rfl
        | true =>
          have hm := List.contains_iff_mem.1 hc
          obtain ⟨i, hi, e⟩ := List.getElem_of_mem hm
          simp at e
          have := (List.pairwise_iff_getElem.1 hd) i k (by rw [List.length_take] at hi; omega) hkl (by rw [List.length_take] at hi; omega)
          simp [hkl] at e this
          exact absurd e this
      rw [hnot]
      generalize L.getD k 0 = z at *
      simp [inR]
      omega
  have := hs L.length 0 (by omega)
  rw [isOrd]
  simp only [List.take_zero, List.drop_zero] at this
  rw [this]
  simp [inR, hl]
  omega
theorem degO_ord {M : List (List Int)} (hw : WM M) : isOrd M.length (degO M) = true := by
  refine ord_of hw.1 (degO_length hw) ?_ ?_
  · rw [degO_t hw]
    intro k hk
    rw [oI_len] at hk
    obtain ⟨e1, e2⟩ := oI_get M hk
    rw [e1]; omega
  · rw [degO_t hw, oI]
    have hn := dOrd_nodup M M.length
    rw [List.Nodup, List.pairwise_map]
    exact hn.imp fun h e => h (by exact_mod_cast e)
end Go.Sh

/-
  The law FnPivots, walked: a pivot partition is a partition in which every item is a pivot or has a positive weight to one of its block.
-/
namespace Go.Sh
set_option linter.unusedSimpArgs false
set_option linter.unusedVariables false
open Go Go.RowKit Go.Proofs

def alI (l : List Int) (i : Nat) : Nat → Bool
  | 0 => true
  | j + 1 => alI l i j && !(decide (i ≠ j) && decide (l.getD i 0 = l.getD j 0))
def gdI (M : List (List Int)) (l : List Int) (i : Nat) : Nat → Bool
  | 0 => false
  | j + 1 => if i ≠ j ∧ l.getD i 0 = l.getD j 0 then gdI M l i j || decide (0 < mat M i j) else gdI M l i j
theorem alI_f {l : List Int} {i : Nat} : ∀ {j : Nat}, alI l i j = false → ∃ k, k < j ∧ i ≠ k ∧ l.getD i 0 = l.getD k 0
  | 0, h => by simp [alI] at h
  | j + 1, h => by
    rw [alI, Bool.and_eq_false_iff] at h
    rcases h with h | h
    · obtain ⟨k, a, b⟩ := alI_f h; exact ⟨k, by omega, b⟩
    · simp at h; exact ⟨j, by omega, h.1, by simpa using h.2⟩
theorem gdI_f {M : List (List Int)} {l : List Int} {i : Nat} : ∀ {j : Nat}, gdI M l i j = false → ∀ k, k < j → i ≠ k → l.getD i 0 = l.getD k 0 → ¬ 0 < mat M i k
  | 0, _, k, hk, _, _ => by omega
  | j + 1, h, k, hk, h1, h2 => by
    rw [gdI] at h
    split at h
    · rw [Bool.or_eq_false_iff] at h
      rcases Nat.lt_succ_iff_lt_or_eq.mp hk with g | rfl
      · exact gdI_f h.1 k g h1 h2
      · simpa using h.2
    · rename_i hn
      rcases Nat.lt_succ_iff_lt_or_eq.mp hk with g | rfl
      · exact gdI_f h k g h1 h2
      · exact absurd ⟨h1, h2⟩ hn
theorem piv_test {M : List (List Int)} {O : List Int} (hw : WM M) (h : isOrd M.length O = true) {i : Nat} (hi : i < M.length) : alI (piv M O) i M.length = true ∨ gdI M (piv M O) i M.length = true := by
  cases ha : alI (piv M O) i M.length with
  | true => exact .inl rfl
  | false =>
    right
    cases hg : gdI M (piv M O) i M.length with
    | true => rfl
    | false =>
      exfalso
      obtain ⟨k, k1, k2, k3⟩ := alI_f ha
      rcases piv_good hw h hi with g | ⟨j, j1, j2, j3, j4⟩
      · exact g k k1 k2 k3
      · exact gdI_f hg j j1 j2 j3 j4

set_option maxRecDepth 20000 in
set_option maxHeartbeats 8000000 in
theorem Try.fnPivots_ok (B : List Int) (hBw : B.length ≤ 9223372036854775807) : PCall Try.prog 6 [rby B] (.val (.bool true)) := by
  have wbig := Try.big_ok B hBw
  refine FCall.pcall (R := fun r _ => r = .val (.bool true)) ?_ 0 (by rintro r H rfl; exact view_bool)
  refine FCall.of_body Try.func6 rfl (by kernel_rfl) (by simp [Try.ntmps6]) ?_
  refine SW.seqW ⟨ofL [(0, rby B)], hp [] 0⟩ ?_ ?_
  · refine SW_of_vc Try.mixed _ _ _ (by kernel_rfl) ?_
    simp (disch := omega) only [Try.ntmps6, Try.results6, go_sem, rby, rr_eq, bne_self_eq_false, beq_self_eq_true]
    exact Wk.of (by simp only [go_sem, ↓List.forall_mem_cons, List.not_mem_nil, false_implies, implies_true, and_true, true_and, and_self, ri_eq, Int.natCast_add, Int.cast_ofNat_Int, rby]; try simp) rfl
  by_cases hB : 1048576 < B.length
  · rw [decide_eq_true hB] at wbig
    refine SW_of_vc Try.mixed _ _ _ (by kernel_rfl) ?_
    simp (disch := omega) only [Try.ntmps6, Try.results6, go_sem, rby, rr_eq, bne_self_eq_false, beq_self_eq_true]
    refine wbig.callV 0 (viewL_cons_of (view_row) viewL_nil_of) ?_
    simp (disch := omega) only [Try.ntmps6, Try.results6, go_sem, rby, rr_eq, bne_self_eq_false, beq_self_eq_true]
    exact Fin.val rfl
  rw [decide_eq_false hB] at wbig
  have hB : B.length ≤ 1048576 := by omega
  refine SW.seqW ⟨ofL [(0, rby B)], hp [] 0⟩ ?_ ?_
  · refine SW_of_vc Try.mixed _ _ _ (by kernel_rfl) ?_
    simp (disch := omega) only [Try.ntmps6, Try.results6, go_sem, rby, rr_eq, bne_self_eq_false, beq_self_eq_true]
    refine wbig.callV 0 (viewL_cons_of (view_row) viewL_nil_of) ?_
    simp (disch := omega) only [Try.ntmps6, Try.results6, go_sem, rby, rr_eq, bne_self_eq_false, beq_self_eq_true]
    exact Wk.of (by simp only [go_sem, ↓List.forall_mem_cons, List.not_mem_nil, false_implies, implies_true, and_true, true_and, and_self, ri_eq, Int.natCast_add, Int.cast_ofNat_Int, rby]; try simp) rfl
  refine SW.seqI (fun y : List (List Int) × List Int => ⟨ofL [(3, rr y.1), (4, ri y.2)], hp [] 0⟩) (fun y => (1 ≤ y.1.length ∧ y.1.length ≤ 7) ∧ (∀ i, i < y.1.length → (mrow y.1 i).length ≤ 6) ∧ y.2.length ≤ 9) ?_ ?_
  · refine SW_of_vc Try.mixed _ _ _ (by kernel_rfl) ?_
    simp (disch := omega) only [Try.ntmps6, Try.results6, go_sem, rby, rr_eq, bne_self_eq_false, beq_self_eq_true]
    refine (Try.drawPiv_e B hB).callE 0 (viewL_cons_of (view_row) viewL_nil_of) ?_
    rintro T ⟨M, O, rfl, hM1, hM7, hR6, hO9⟩
    simp (disch := omega) only [Try.ntmps6, Try.results6, go_sem, rby, rr_eq, bne_self_eq_false, beq_self_eq_true]
    exact ⟨(M, O), ⟨⟨hM1, hM7⟩, hR6, hO9⟩, Wk.of (by simp only [go_sem, ↓List.forall_mem_cons, List.not_mem_nil, false_implies, implies_true, and_true, true_and, and_self, ri_eq, Int.natCast_add, Int.cast_ofNat_Int, rr_eq]; try simp) rfl⟩
  rintro ⟨M, O⟩ ⟨⟨hM1, hM7⟩, hR6, hO9⟩
  simp only at hM1 hM7 hR6 hO9
  have hM : M.length ≤ 1048576 := by omega
  have hR : ∀ i, i < M.length → (mrow M i).length ≤ 1048576 := fun i hi => by have := hR6 i hi; omega
  have hO : O.length ≤ 1048576 := by omega
  have w1 := Try.implPiv_ok M O hM hR hO
  have w2 := Try.specPiv_ok M O hM hR hO
  have w3 := Try.implBP_ok M hM hR
  have w4 := Try.specBP_ok M hM hR
  have w5 := Try.implDeg_ok M hM hR
  have w6 := Try.specDeg_ok M hM hR
  have w7 := Try.implIsOrder_ok M.length O hO
  have w8 := Try.specIsOrder_ok M.length O hO (by omega) (by omega)
  have hl : (piv M O).length ≤ 7 := by
    by_cases h : WM M ∧ isOrd M.length O = true
    · rw [piv_length h]; omega
    · rw [piv_f h]; simp
  have hbl : (bp M).1.length ≤ 7 := by
    by_cases h : WM M
    · rw [bp_len h]; omega
    · rw [bp_f h]; simp
  have hdl : (degO M).length ≤ 7 := by
    by_cases h : WM M
    · rw [degO_length h]; omega
    · rw [degO_f h]; simp
  have s1 := Try.sameInts_ok (piv M O) (by omega)
  have s2 := Try.sameInts_ok (bp M).1 (by omega)
  have s3 := Try.sameInts_ok (degO M) (by omega)
  refine SW.seqW ⟨ofL [(3, rr M), (4, ri O), (5, ri (piv M O))], hp [] 0⟩ ?_ ?_
  · refine SW_of_vc Try.mixed _ _ _ (by kernel_rfl) ?_
    simp (disch := omega) only [Try.ntmps6, Try.results6, go_sem, rby, rr_eq, bne_self_eq_false, beq_self_eq_true]
    refine w1.callV 0 (viewL_cons_of (view_row) (viewL_cons_of (view_row) viewL_nil_of)) ?_
    simp (disch := omega) only [Try.ntmps6, Try.results6, go_sem, rby, rr_eq, bne_self_eq_false, beq_self_eq_true]
    exact Wk.of (by simp only [go_sem, ↓List.forall_mem_cons, List.not_mem_nil, false_implies, implies_true, and_true, true_and, and_self, ri_eq, Int.natCast_add, Int.cast_ofNat_Int, rr_eq]; try simp) rfl
  refine SW.seqW ⟨ofL [(3, rr M), (4, ri O), (5, ri (piv M O)), (6, ri (bp M).1), (7, .val (.int .i64 (bp M).2))], hp [] 0⟩ ?_ ?_
  · refine SW_of_vc Try.mixed _ _ _ (by kernel_rfl) ?_
    simp (disch := omega) only [Try.ntmps6, Try.results6, go_sem, rby, rr_eq, bne_self_eq_false, beq_self_eq_true]
    refine w3.callV 0 (viewL_cons_of (view_row) viewL_nil_of) ?_
    simp (disch := omega) only [Try.ntmps6, Try.results6, go_sem, rby, rr_eq, bne_self_eq_false, beq_self_eq_true]
    exact Wk.of (by simp only [go_sem, ↓List.forall_mem_cons, List.not_mem_nil, false_implies, implies_true, and_true, true_and, and_self, ri_eq, Int.natCast_add, Int.cast_ofNat_Int, rr_eq]; try simp) rfl
  refine SW.seqW ⟨ofL [(3, rr M), (4, ri O), (5, ri (piv M O)), (6, ri (bp M).1), (7, .val (.int .i64 (bp M).2)), (8, ri (bp M).1), (9, .val (.int .i64 (bp M).2))], hp [] 0⟩ ?_ ?_
  · refine SW_of_vc Try.mixed _ _ _ (by kernel_rfl) ?_
    simp (disch := omega) only [Try.ntmps6, Try.results6, go_sem, rby, rr_eq, bne_self_eq_false, beq_self_eq_true]
    refine w4.callV 0 (viewL_cons_of (view_row) viewL_nil_of) ?_
    simp (disch := omega) only [Try.ntmps6, Try.results6, go_sem, rby, rr_eq, bne_self_eq_false, beq_self_eq_true]
    exact Wk.of (by simp only [go_sem, ↓List.forall_mem_cons, List.not_mem_nil, false_implies, implies_true, and_true, true_and, and_self, ri_eq, Int.natCast_add, Int.cast_ofNat_Int, rr_eq]; try simp) rfl
  refine SW.seqW ⟨ofL [(3, rr M), (4, ri O), (5, ri (piv M O)), (6, ri (bp M).1), (7, .val (.int .i64 (bp M).2))], hp [] 0⟩ ?_ ?_
  · refine SW_of_vc Try.mixed _ _ _ (by kernel_rfl) ?_
    simp (disch := omega) only [Try.ntmps6, Try.results6, go_sem, rby, rr_eq, bne_self_eq_false, beq_self_eq_true]
    refine w2.callV 0 (viewL_cons_of (view_row) (viewL_cons_of (view_row) viewL_nil_of)) ?_
    simp (disch := omega) only [Try.ntmps6, Try.results6, go_sem, rby, rr_eq, bne_self_eq_false, beq_self_eq_true]
    refine s1.callV 0 (viewL_cons_of (view_row) (viewL_cons_of (view_row) viewL_nil_of)) ?_
    simp (disch := omega) only [Try.ntmps6, Try.results6, go_sem, rby, rr_eq, bne_self_eq_false, beq_self_eq_true]
    refine s2.callV 0 (viewL_cons_of (view_row) (viewL_cons_of (view_row) viewL_nil_of)) ?_
    simp (disch := omega) only [Try.ntmps6, Try.results6, go_sem, rby, rr_eq, bne_self_eq_false, beq_self_eq_true]
    refine w5.callV 0 (viewL_cons_of (view_row) viewL_nil_of) ?_
    simp (disch := omega) only [Try.ntmps6, Try.results6, go_sem, rby, rr_eq, bne_self_eq_false, beq_self_eq_true]
    refine w6.callV 0 (viewL_cons_of (view_row) viewL_nil_of) ?_
    simp (disch := omega) only [Try.ntmps6, Try.results6, go_sem, rby, rr_eq, bne_self_eq_false, beq_self_eq_true]
    refine s3.callV 0 (viewL_cons_of (view_row) (viewL_cons_of (view_row) viewL_nil_of)) ?_
    simp (disch := omega) only [Try.ntmps6, Try.results6, go_sem, rby, rr_eq, bne_self_eq_false, beq_self_eq_true]
    refine w7.callV 0 (viewL_cons_of (view_int) (viewL_cons_of (view_row) viewL_nil_of)) ?_
    simp (disch := omega) only [Try.ntmps6, Try.results6, go_sem, rby, rr_eq, bne_self_eq_false, beq_self_eq_true]
    refine w8.callV 0 (viewL_cons_of (view_int) (viewL_cons_of (view_row) viewL_nil_of)) ?_
    simp (disch := omega) only [Try.ntmps6, Try.results6, go_sem, rby, rr_eq, bne_self_eq_false, beq_self_eq_true]
    exact Wk.of (by simp only [go_sem, ↓List.forall_mem_cons, List.not_mem_nil, false_implies, implies_true, and_true, true_and, and_self, ri_eq, Int.natCast_add, Int.cast_ofNat_Int, rr_eq]; try simp) rfl
  clear w1 w2 w3 w4 w6 w7 w8 s1 s2 s3
  by_cases hc : WM M ∧ isOrd M.length O = true
  case neg =>
    have e0 : (piv M O).length = 0 := by rw [piv_f hc]; rfl
    generalize piv M O = l at *
    refine SW_of_vc Try.mixed _ _ _ (by kernel_rfl) ?_
    simp (disch := omega) only [Try.ntmps6, Try.results6, go_sem, rby, rr_eq, bne_self_eq_false, beq_self_eq_true]
    exact Fin.val rfl
  obtain ⟨hw, ho⟩ := hc
  have hpl := piv_length ⟨hw, ho⟩
  have htest : ∀ i, i < M.length → alI (piv M O) i M.length = true ∨ gdI M (piv M O) i M.length = true := fun i hi => piv_test hw ho hi
  have hpp := piv_isPart hw ho
  have wp := Try.implIsPartition_ok (piv M O) (by omega)
  rw [hpp] at wp
  generalize piv M O = l at *
  obtain ⟨f1, f2, f3, f4⟩ := bp_facts hw
  have wc := Try.implPartitionCost_ok M (bp M).1 hM hR (by omega)
  rw [f2] at wc
  have wo := Try.implIsOrder_ok M.length (degO M) (by omega)
  rw [degO_ord hw] at wo
  have wb := Try.specBestCost_ok (M := M) (C := []) hM hR (by simp)
  generalize bp M = bb at *
  obtain ⟨b, n⟩ := bb
  simp only at hbl f1 f2 f3 f4 wc
  generalize bCost M [] = bc at *
  refine SW.seqW ⟨ofL [(3, rr M), (5, ri l), (6, ri b), (7, .val (.int .i64 n))], hp [] 0⟩ ?_ ?_
  · refine SW_of_vc Try.mixed _ _ _ (by kernel_rfl) ?_
    simp (disch := omega) only [Try.ntmps6, Try.results6, go_sem, rby, rr_eq, bne_self_eq_false, beq_self_eq_true]
    exact Wk.of (by simp only [go_sem, ↓List.forall_mem_cons, List.not_mem_nil, false_implies, implies_true, and_true, true_and, and_self, ri_eq, Int.natCast_add, Int.cast_ofNat_Int, rr_eq]; try simp) rfl
  refine SW.seqW ⟨ofL [(3, rr M), (5, ri l), (6, ri b), (7, .val (.int .i64 n))], hp [] 0⟩ ?_ ?_
  · refine SW_of_vc Try.mixed _ _ _ (by kernel_rfl) ?_
    simp (disch := omega) only [Try.ntmps6, Try.results6, go_sem, rby, rr_eq, bne_self_eq_false, beq_self_eq_true]
    refine LoopW.loop (fun i : Nat => ⟨ofL [(3, rr M), (5, ri l), (6, ri b), (7, .val (.int .i64 n)), (10, .val (.int .i64 i))], hp [] 0⟩) (fun i => i ≤ M.length) (fun i => M.length - i) 0 (by omega) (Wk.of (by simp only [go_sem, ↓List.forall_mem_cons, List.not_mem_nil, false_implies, implies_true, and_true, true_and, and_self, ri_eq, Int.natCast_add, Int.cast_ofNat_Int, rr_eq]; try simp) rfl) ?_
    intro i hi
    have hil : (ints l).length = M.length := by rw [ints_length, hpl]
    refine SW_of_vc Try.mixed _ _ _ (by kernel_rfl) ?_
    by_cases hlt : i < M.length
    case neg =>
      obtain rfl : i = M.length := by omega
      simp (disch := omega) only [Try.ntmps6, Try.results6, go_sem, rby, rr_eq, bne_self_eq_false, beq_self_eq_true]
      exact Wk.of (by simp only [go_sem, ↓List.forall_mem_cons, List.not_mem_nil, false_implies, implies_true, and_true, true_and, and_self, ri_eq, Int.natCast_add, Int.cast_ofNat_Int, rr_eq]; try simp) rfl
    have ht := htest i hlt
    have gi : (ints l)[i]? = some (.val (.int .i64 (l.getD i 0))) := ints_get (by omega)
    have ro := hw.2.1 i hlt
    have gr : (rows M)[i]? = some (.row M.length false (ints (mrow M i))) := by rw [rows_get hlt, ro]
    have rl : (rows M).length = M.length := by simp [rows]
    simp (disch := omega) only [Try.ntmps6, Try.results6, go_sem, rby, rr_eq, bne_self_eq_false, beq_self_eq_true]
    refine LoopW.loop (fun j : Nat => ⟨ofL [(3, rr M), (5, ri l), (6, ri b), (7, .val (.int .i64 n)), (10, .val (.int .i64 i)), (11, .val (.bool (alI l i j))), (12, .val (.bool (gdI M l i j))), (13, .val (.int .i64 j))], hp [] 0⟩) (fun j => j ≤ M.length) (fun j => M.length - j) 0 (by omega) (Wk.of (by simp only [go_sem, ↓List.forall_mem_cons, List.not_mem_nil, false_implies, implies_true, and_true, true_and, and_self, ri_eq, Int.natCast_add, Int.cast_ofNat_Int, rr_eq, alI, gdI]; try simp) rfl) ?_
    intro j hj
    refine SW_of_vc Try.mixed _ _ _ (by kernel_rfl) ?_
    by_cases hltj : j < M.length
    case neg =>
      obtain rfl : j = M.length := by omega
      rcases ht with ht | ht
      · simp (disch := omega) only [Try.ntmps6, Try.results6, go_sem, rby, rr_eq, bne_self_eq_false, beq_self_eq_true, ht]
        exact ⟨i + 1, by omega, by omega, Wk.of (by simp only [go_sem, ↓List.forall_mem_cons, List.not_mem_nil, false_implies, implies_true, and_true, true_and, and_self, ri_eq, Int.natCast_add, Int.cast_ofNat_Int, rr_eq]; try simp) rfl⟩
      · generalize alI l i M.length = av at *
        cases av <;> simp (disch := omega) only [Try.ntmps6, Try.results6, go_sem, rby, rr_eq, bne_self_eq_false, beq_self_eq_true, ht]
        all_goals exact ⟨i + 1, by omega, by omega, Wk.of (by simp only [go_sem, ↓List.forall_mem_cons, List.not_mem_nil, false_implies, implies_true, and_true, true_and, and_self, ri_eq, Int.natCast_add, Int.cast_ofNat_Int, rr_eq]; try simp) rfl⟩
    have gj : (ints l)[j]? = some (.val (.int .i64 (l.getD j 0))) := ints_get (by omega)
    have gm : (ints (mrow M i))[j]? = some (.val (.int .i64 (mat M i j))) := ints_get' ro hltj
    have mil : (ints (mrow M i)).length = M.length := by rw [ints_length, ro]
    have ea : alI l i (j + 1) = (alI l i j && !(decide (i ≠ j) && decide (l.getD i 0 = l.getD j 0))) := rfl
    have eg : gdI M l i (j + 1) = if i ≠ j ∧ l.getD i 0 = l.getD j 0 then gdI M l i j || decide (0 < mat M i j) else gdI M l i j := rfl
    by_cases hij : i = j
    · subst hij
      replace ea : alI l i (i + 1) = alI l i i := by rw [ea]; simp
      replace eg : gdI M l i (i + 1) = gdI M l i i := by rw [eg, if_neg (fun h => h.1 rfl)]
      simp (disch := omega) only [Try.ntmps6, Try.results6, go_sem, rby, rr_eq, bne_self_eq_false, beq_self_eq_true]
      exact ⟨i + 1, by omega, by omega, Wk.of (by simp only [go_sem, ↓List.forall_mem_cons, List.not_mem_nil, false_implies, implies_true, and_true, true_and, and_self, ri_eq, Int.natCast_add, Int.cast_ofNat_Int, rr_eq, ea, eg]; try simp) rfl⟩
    by_cases hv : l.getD i 0 = l.getD j 0
    · replace ea : alI l i (j + 1) = false := by rw [ea, decide_eq_true hij, decide_eq_true hv]; simp
      rw [if_pos ⟨hij, hv⟩] at eg
      generalize l.getD i 0 = x at *
      generalize l.getD j 0 = y at *
      subst hv
      generalize gdI M l i j = gb at *
      generalize alI l i j = ab at *
      generalize mat M i j = mv at *
      cases gb
      · by_cases hm : 0 < mv
        · simp (disch := omega) only [Try.ntmps6, Try.results6, go_sem, rby, rr_eq, bne_self_eq_false, beq_self_eq_true, gi, gj, gm, mil, gr, rl, hil]
          exact ⟨j + 1, by omega, by omega, Wk.of (by simp only [go_sem, ↓List.forall_mem_cons, List.not_mem_nil, false_implies, implies_true, and_true, true_and, and_self, ri_eq, Int.natCast_add, Int.cast_ofNat_Int, rr_eq, ea, eg, decide_eq_true hm]; try simp) rfl⟩
        · simp (disch := omega) only [Try.ntmps6, Try.results6, go_sem, rby, rr_eq, bne_self_eq_false, beq_self_eq_true, gi, gj, gm, mil, gr, rl, hil]
          exact ⟨j + 1, by omega, by omega, Wk.of (by simp only [go_sem, ↓List.forall_mem_cons, List.not_mem_nil, false_implies, implies_true, and_true, true_and, and_self, ri_eq, Int.natCast_add, Int.cast_ofNat_Int, rr_eq, ea, eg, decide_eq_false hm]; try simp) rfl⟩
      · simp (disch := omega) only [Try.ntmps6, Try.results6, go_sem, rby, rr_eq, bne_self_eq_false, beq_self_eq_true, gi, gj, gm, mil, gr, rl, hil]
        exact ⟨j + 1, by omega, by omega, Wk.of (by simp only [go_sem, ↓List.forall_mem_cons, List.not_mem_nil, false_implies, implies_true, and_true, true_and, and_self, ri_eq, Int.natCast_add, Int.cast_ofNat_Int, rr_eq, ea, eg]; try simp) rfl⟩
    · replace ea : alI l i (j + 1) = alI l i j := by rw [ea, decide_eq_false hv]; simp
      replace eg : gdI M l i (j + 1) = gdI M l i j := by rw [eg, if_neg (fun h => hv h.2)]
      generalize l.getD i 0 = x at *
      generalize l.getD j 0 = y at *
      simp (disch := omega) only [Try.ntmps6, Try.results6, go_sem, rby, rr_eq, bne_self_eq_false, beq_self_eq_true, gi, gj, gm, mil, gr, rl, hil]
      exact ⟨j + 1, by omega, by omega, Wk.of (by simp only [go_sem, ↓List.forall_mem_cons, List.not_mem_nil, false_implies, implies_true, and_true, true_and, and_self, ri_eq, Int.natCast_add, Int.cast_ofNat_Int, rr_eq, ea, eg]; try simp) rfl⟩
  refine SW_of_vc Try.mixed _ _ _ (by kernel_rfl) ?_
  simp (disch := omega) only [Try.ntmps6, Try.results6, go_sem, rby, rr_eq, bne_self_eq_false, beq_self_eq_true, rep_none]
  refine wp.callV 0 (viewL_cons_of (view_row) viewL_nil_of) ?_
  simp (disch := omega) only [Try.ntmps6, Try.results6, go_sem, rby, rr_eq, bne_self_eq_false, beq_self_eq_true, rep_none]
  refine wc.callV 0 (viewL_cons_of (view_row) (viewL_cons_of (view_row) viewL_nil_of)) ?_
  simp (disch := omega) only [Try.ntmps6, Try.results6, go_sem, rby, rr_eq, bne_self_eq_false, beq_self_eq_true, rep_none]
  refine w5.callV 0 (viewL_cons_of (view_row) viewL_nil_of) ?_
  simp (disch := omega) only [Try.ntmps6, Try.results6, go_sem, rby, rr_eq, bne_self_eq_false, beq_self_eq_true, rep_none]
  refine wo.callV 0 (viewL_cons_of (view_int) (viewL_cons_of (view_row) viewL_nil_of)) ?_
  simp (disch := omega) only [Try.ntmps6, Try.results6, go_sem, rby, rr_eq, bne_self_eq_false, beq_self_eq_true, rep_none]
  refine wb.callV 1 (viewL_cons_of view_row (viewL_cons_of (view_ownC (C := []) (e2 := false) rfl rfl) viewL_nil_of)) ?_
  simp (disch := omega) only [Try.ntmps6, Try.results6, go_sem, rby, rr_eq, bne_self_eq_false, beq_self_eq_true, rep_none]
  exact Fin.val rfl
end Go.Sh

/-
  From the values that came in to the shadow's: bytes.
-/
namespace Go.Sh
set_option linter.unusedSimpArgs false
set_option linter.unusedVariables false
open Go Go.RowKit
open Go.ChangeShapes Go.WideShapes

theorem crel_bys {O : Nat → Prop} {w : World} : ∀ (L : List Int) (x : Addr), (L ≠ [] → ¬ O x.block) → (∀ i, i < L.length → w.cell? (x.add i) = some (.int .u8 (L.getD i 0))) → CRel O w (bys L) x
  | [], x, _, _ => by simp only [bys, List.map_nil, CRel]
  | n :: L, x, hO, h => by
    have h0 := h 0 (by simp)
    rw [Addr.add_zero'] at h0
    have hs : x.spot = none := World.cell?_spot h0
    have e : bys (n :: L) = .val (.int .u8 n) :: bys L := rfl
    rw [e]
    simp only [CRel]
    refine ⟨hs, hO (by simp), ⟨_, h0, by simp [VRel]⟩, crel_bys L ⟨x.block, x.off + 1, none⟩ (fun _ => hO (by simp)) (fun i hi => ?_)⟩
    have := h (i + 1) (by simpa using hi)
    have e2 : (⟨x.block, x.off + 1, none⟩ : Addr).add i = x.add (i + 1) := by
      rw [Addr.add_lit, Addr.add_succ']
      simp [Nat.add_assoc, Nat.add_comm 1 i]
    rw [e2, this]
    simp
theorem isRow_bys {w : World} {a : Option Addr} {len cap : Nat} {zs : List Int} (h : IsRow .u8 w a len cap zs) : VRel (fun _ => False) w noj (rby (zs.take len)) (.slice a len cap) := by
  rcases h with ⟨rfl, rfl, rfl, rfl⟩ | ⟨x, rfl, h1, h2, h3, h4, h5⟩
  · simp only [rby, VRel]
    exact ⟨none, 0, rfl, Nat.le_refl _, by simp, .inl (by simp [bys])⟩
  · have hl : (zs.take len).length = len := by simp; omega
    simp only [rby, VRel]
    refine ⟨some x, cap, by rw [hl], by omega, by simp, .inr ⟨x, rfl, crel_bys _ x (fun _ h => h) (fun i hi => ?_)⟩⟩
    have hi' : i < len := by rw [hl] at hi; exact hi
    rw [h4 i (by omega)]
    congr 2
    simp [List.getD, hi']
theorem cell_bys {Hh : Type} {enc : TypeId × Value → Hh} {P : Program} {w : World} {held : Bool} {t e : TypeId} {fuel : Nat} {v : Value} {x : DataW Hh × List MemPlace} (ht : P.underlying t = some (.slice e)) (he : P.underlying e = some (.int .u8)) (hc : P.cellsOf e = 1)
    (h : DataW.trod enc P w 0 (fun _ => true) held fuel t [v] = some x) : ∃ L : List Int, VRel (fun _ => False) w noj (rby L) v ∧ L.length ≤ maxLen := by
  rcases open_ints ht he hc h with ⟨hcs, _⟩ | ⟨a, l, c, zs, hcs, _, hl, hm, hz, _, hcell, hwz⟩
  · simp at hcs
    subst hcs
    exact ⟨[], isRow_bys (zs := []) (.inl ⟨rfl, rfl, rfl, rfl⟩), by simp⟩
  · simp at hcs
    subst hcs
    exact ⟨zs.take l, isRow_bys (.inr ⟨_, rfl, hl, hm, by simpa using hz, hcell, hwz⟩), by simp; omega⟩
end Go.Sh
