/-
  Texts put together: ShP, ShR, RD1, RD2, RD3, RD4, RD5, DA8, EFnRuleFormat, TBE, TB4, LiftB. What each proves stands at its own head, with its conditions.
-/
import Derived.Test.YtkmckbjgffaieaaGreatDoorZFnRuleFormat5
import Derived.Test.YtkmckbjgffaieaaGreatDoorRows
import Derived.LaidMore
import Derived.Lib.LaidU8
import Derived.Shelf.Vars
import Derived.Handed

/-
  Regions that draw their order, further: operations that allocate, in more orders than one.
-/
namespace Go.Sh
set_option linter.unusedSimpArgs false
set_option linter.unusedVariables false
open Go Go.RowKit
variable {P : Program}

theorem legS_uniq {ops : Array Oper} {S : Heap → Prop} {d : Bool} {o : Oper} {σ : Slots} {H : Heap} {Q Q' : SV → Heap → Prop} (hu : userCall o.op = none) (hS : S H) (h : legS P ops S d o σ H Q) (h' : legS P ops S d o σ H Q') : ∀ r H1, Q r H1 ↔ Q' r H1 := by
  cases d with
  | true =>
    simp only [legS, if_true] at h h'
    rcases h.2 with ⟨g, a, h1, h2⟩ | ⟨g, h2⟩
    · rcases h'.2 with ⟨g', b, k1, k2⟩ | ⟨g', _⟩
      · have := (h1 H hS).symm.trans (k1 H hS)
        have e : a = b := by simpa using this
        intro r H1; rw [h2, k2, e]
      · rw [g] at g'; simp at g'
    · rcases h'.2 with ⟨g', _⟩ | ⟨g', k2⟩
      · rw [g] at g'; simp at g'
      · intro r H1; rw [h2, k2]
  | false =>
    simp only [legS, Bool.false_eq_true, if_false, leg, hu] at h h'
    rcases h.2 with ⟨g, a, Ha, h1, h2⟩ | ⟨g, h2⟩
    · rcases h'.2 with ⟨g', b, Hb, k1, k2⟩ | ⟨g', _⟩
      · have := h1.symm.trans k1
        simp only [Option.some.injEq, Prod.mk.injEq] at this
        intro r H1; rw [h2, k2, this.1, this.2]
      · rw [g] at g'; simp at g'
    · rcases h'.2 with ⟨g', _⟩ | ⟨g', k2⟩
      · rw [g] at g'; simp at g'
      · intro r H1; rw [h2, k2]
theorem stepS_fam {n : Nat} {ops : Array Oper} {S : Heap → Prop} {d : Bool} {o : Oper} {s : St} {ι : Type} {F : ι → Prop} {A : ι → St → Prop} (hu : userCall o.op = none) (hS : S s.H) {l0 : ι} (h0 : F l0) (h : ∀ l, F l → stepS P n ops S d o s (A l)) :
    stepS P n ops S d o s (fun s' => ∀ l, F l → A l s') := by
  obtain ⟨hd, Q, hl, hk⟩ := h l0 h0
  refine ⟨hd, Q, hl, fun r H' hq => ⟨(hk r H' hq).1, fun l hf => ?_⟩⟩
  obtain ⟨_, Q', hl', hk'⟩ := h l hf
  exact (hk' r H' ((legS_uniq hu hS hl hl' r H').1 hq)).2

def pOk (D : List Nat) (ops : Array Oper) (k i : Nat) : Bool := match ops[k]?, ops[i]? with
  | some x, some y => waitsT ops 6 y k || pairOkS D ops k i x y
  | _, _ => false
structure Fam (D : List Nat) (ops : Array Oper) (hv : Nat → Bool) (Ls : List (List Nat)) : Prop where
  edge : ∀ (i : Nat) (y : Oper), ops[i]? = some y → ∀ e ∈ y.after, Region.binds .any e = true → e.on < i
  user : ∀ (i : Nat) (y : Oper), ops[i]? = some y → userCall y.op = none
  nd : ∀ l ∈ Ls, l.Nodup
  bd : ∀ l ∈ Ls, ∀ i ∈ l, i < ops.size
  all : ∀ l ∈ Ls, ∀ i, i < ops.size → i ∈ l
  pw : ∀ l ∈ Ls, l.Pairwise (fun k i => (hv k = true ∧ hv i = true) ∨ pOk D ops k i = true)
  ext : ∀ l ∈ Ls, ∀ m i, i < ops.size → hv i = true → i ∉ (l.filter hv).take m → (∃ k, k < ops.size ∧ hv k = true ∧ k ∉ (l.filter hv).take m ∧ ∃ y : Oper, ops[i]? = some y ∧ waitsT ops 6 y k = true) ∨ ∃ l' ∈ Ls, ((l.filter hv).take m ++ [i]) <+: l'.filter hv

def unl (listed : Array Bool) (i : Nat) : Bool := !listed.getD i true
theorem unl_set {listed : Array Bool} {i : Nat} (hi : i < listed.size) (a : Nat) : unl (listed.setIfInBounds i true) a = (unl listed a && decide (a ≠ i)) := by
  unfold unl
  by_cases h : a = i
  · subst h; simp [Array.getD_eq_getD_getElem?, hi]
  · rw [Array.getD_eq_getD_getElem?, Array.getElem?_setIfInBounds_ne (Ne.symm h), ← Array.getD_eq_getD_getElem?]; simp [h]
theorem filter_set {listed : Array Bool} {i : Nat} (hi : i < listed.size) {l l1 l2 : List Nat} (hnd : l.Nodup) (h : l.filter (unl listed) = l1 ++ i :: l2) : l.filter (unl (listed.setIfInBounds i true)) = l1 ++ l2 ∧ i ∉ l1 ∧ i ∉ l2 := by
  have hn : (l1 ++ i :: l2).Nodup := by rw [← h]; exact hnd.filter _
  rw [List.nodup_append] at hn
  obtain ⟨_, n2, n3⟩ := hn
  have i1 : i ∉ l1 := fun hm => n3 i hm i (by simp) rfl
  have i2 : i ∉ l2 := (List.nodup_cons.1 n2).1
  refine ⟨?_, i1, i2⟩
  have e : (fun a => unl (listed.setIfInBounds i true) a) = fun a => (unl listed a && decide (a ≠ i)) := funext fun a => unl_set hi a
  have : l.filter (unl (listed.setIfInBounds i true)) = (l.filter (unl listed)).filter (fun a => decide (a ≠ i)) := by
    rw [List.filter_filter]
    congr 1
    funext a; rw [unl_set hi, Bool.and_comm]
  rw [this, h, List.filter_append, List.filter_cons]
  simp only [ne_eq, not_true_eq_false, decide_false, Bool.false_eq_true, if_false]
  rw [List.filter_eq_self.2 (fun a ha => by simp; rintro rfl; exact i1 ha), List.filter_eq_self.2 (fun a ha => by simp; rintro rfl; exact i2 ha)]
theorem left_nil_filter {n : Nat} {listed : Array Bool} (hs : listed.size = n) (h : left n listed = []) (l : List Nat) : l.filter (unl listed) = [] := by
  rw [List.filter_eq_nil_iff]
  intro a _
  by_cases ha : a < n
  · have : a ∉ left n listed := by rw [h]; simp
    intro hu
    exact this (List.mem_filter.2 ⟨by simpa using ha, hu⟩)
  · simp [unl, Array.getD_eq_getD_getElem?, Array.getElem?_eq_none (by omega : listed.size ≤ a)]

theorem wpAny_of_fam {n : Nat} {ops : Array Oper} {S : Heap → Prop} {D : List Nat} {Q : Exit → Act → World → Prop} {K : St → Prop} {hv : Nat → Bool} {Ls : List (List Nat)} (hok : Fam D ops hv Ls) : ∀ (fuel : Nat) (listed : Array Bool) (p : List Nat) (s : St) (j : JMap) (a : Act) (w : World), listed.size = ops.size → ClosedL ops listed →
    (left ops.size listed).length ≤ fuel → S s.H → (∃ l ∈ Ls, p <+: l.filter hv) → (∀ i, i < ops.size → hv i = true → (listed.getD i true = true ↔ i ∈ p)) →
    (∀ l, l ∈ Ls ∧ p <+: l.filter hv → opsS P n ops S D (l.filter (unl listed)) s K) → SAll n j s a w → (∀ j' s' a' w', SAll n j' s' a' w' → Nx j s.H w j' s'.H w' → K s' → Q .normal a' w') → wpAny P .any ops Q fuel listed a w := by
  have ready_nil : ∀ listed : Array Bool, listed.size = ops.size → Region.ready .any ops listed = [] → left ops.size listed = [] := by
    intro listed hs hr
    cases hl : left ops.size listed with
    | nil => rfl
    | cons i rest =>
      exfalso
      have hmem : i ∈ left ops.size listed := by rw [hl]; simp
      have hi := List.mem_filter.1 hmem
      have hlt : i < ops.size := by simpa using hi.1
      have hsmall : ∀ k, k < i → listed.getD k true = true := by
        intro k hk
        cases hk' : listed.getD k true with
        | true => rfl
        | false =>
          exfalso
          have hkm : k ∈ left ops.size listed := List.mem_filter.2 ⟨by simp; omega, by simp [hk']⟩
          have hsorted : (left ops.size listed).Pairwise (· < ·) := (List.pairwise_lt_range).filter _
          rw [hl] at hsorted hkm
          rcases List.mem_cons.1 hkm with rfl | h
          · omega
          · have := (List.pairwise_cons.1 hsorted).1 k h
            omega
      have : i ∈ Region.ready .any ops listed := by
        refine List.mem_filter.2 ⟨by simpa using hlt, ?_⟩
        rw [Array.getElem?_eq_getElem hlt]
        simp only [Option.map_some, Option.getD_some, Bool.and_eq_true]
        refine ⟨hi.2, Array.all_eq_true.2 (fun m hm => ?_)⟩
        cases hb : Region.binds .any (ops[i]).after[m] with
        | false => simp
        | true =>
          have h1 := hok.edge i ops[i] (Array.getElem?_eq_getElem hlt) _ (Array.getElem_mem hm) hb
          have h2 := hsmall _ h1
          have h3 : listed.getD ((ops[i]).after[m]).on false = true := by
            rw [Array.getD_eq_getD_getElem?, Array.getElem?_eq_getElem (by omega)] at h2 ⊢
            simpa using h2
          simp [h3]
      rw [hr] at this
      simp at this
  intro fuel
  induction fuel with
  | zero =>
    intro listed p s j a w hs hcl hf hS hne hp hrun ha hq
    have hl : left ops.size listed = [] := by simpa using hf
    obtain ⟨l, hlm, hlp⟩ := hne
    have hrun := hrun l ⟨hlm, hlp⟩
    rw [left_nil_filter hs hl] at hrun
    simp only [opsS] at hrun
    refine ⟨?_, hq j s a w ha (Nx.refl _ _ _) hrun⟩
    cases hr : Region.ready .any ops listed with
    | nil => rfl
    | cons i rest =>
      exfalso
      have hm : i ∈ Region.ready .any ops listed := by rw [hr]; simp
      have hm := List.mem_filter.1 hm
      simp only [Bool.and_eq_true] at hm
      have : i ∈ left ops.size listed := List.mem_filter.2 ⟨hm.1, hm.2.1⟩
      rw [hl] at this; simp at this
  | succ fuel ih =>
    intro listed p s j a w hs hcl hf hS hne hp hrun ha hq
    refine ⟨fun hr => ?_, fun i hi => ?_⟩
    · obtain ⟨l, hlm, hlp⟩ := hne
      have hrun := hrun l ⟨hlm, hlp⟩
      rw [left_nil_filter hs (ready_nil listed hs hr)] at hrun
      simp only [opsS] at hrun
      exact hq j s a w ha (Nx.refl _ _ _) hrun
    · have hm := List.mem_filter.1 hi
      simp only [Bool.and_eq_true] at hm
      have hlt : i < ops.size := by simpa using hm.1
      have hno : listed.getD i true = false := by simpa using hm.2.1
      have hy : ops[i]? = some ops[i] := Array.getElem?_eq_getElem hlt
      have hu := hok.user i _ hy
      have hdir : ∀ e ∈ (ops[i]).after, Region.binds .any e = true → listed.getD e.on false = true := by
        intro e he hb
        have hall := hm.2.2
        rw [hy] at hall
        simp only [Option.map_some, Option.getD_some] at hall
        obtain ⟨m, hm', rfl⟩ := Array.mem_iff_getElem.1 he
        have := Array.all_eq_true.1 hall m hm'
        rw [hb] at this
        simpa only [Bool.not_true, Bool.false_or] using this
      have hset : ∀ m, listed.getD m false = true → (listed.setIfInBounds i true).getD m false = true := by
        intro m h
        by_cases hmi : m = i
        · subst hmi
          simp [Array.getD_eq_getD_getElem?, hs, hlt]
        · rw [Array.getD_eq_getD_getElem?] at h ⊢
          rw [Array.getElem?_setIfInBounds_ne (Ne.symm hmi)]
          exact h
      have hcl' : ClosedL ops (listed.setIfInBounds i true) := by
        intro m y hmy hlm e he hb
        by_cases hmi : m = i
        · subst hmi
          rw [hy] at hmy
          simp at hmy
          subst hmy
          exact hset _ (hdir e he hb)
        · refine hset _ (hcl m y hmy ?_ e he hb)
          rw [Array.getD_eq_getD_getElem?] at hlm ⊢
          rwa [Array.getElem?_setIfInBounds_ne (Ne.symm hmi)] at hlm
      have hwait : ∀ k, k < ops.size → unl listed k = true → waitsT ops 6 ops[i] k = true → False := fun k hk hul hw => by
        have := waitsT_listed hcl 6 _ hdir hw
        simp only [unl, Bool.not_eq_true'] at hul
        rw [Array.getD_eq_getD_getElem?, Array.getElem?_eq_getElem (by omega)] at this hul
        simp at this hul
        rw [this] at hul; simp at hul
      have hsz : i < listed.size := by omega
      -- the lists that go on
      obtain ⟨p', hp', hne', hmov⟩ : ∃ p', (∀ k, k < ops.size → hv k = true → ((listed.setIfInBounds i true).getD k true = true ↔ k ∈ p')) ∧ (∃ l ∈ Ls, p' <+: l.filter hv) ∧
          ∀ l, l ∈ Ls ∧ p' <+: l.filter hv → (p <+: l.filter hv) ∧ ∀ l1 l2, l.filter (unl listed) = l1 ++ i :: l2 → hv i = true → ∀ k ∈ l1, hv k = false := by
        have hlk : ∀ k, (listed.setIfInBounds i true).getD k true = true ↔ (listed.getD k true = true ∨ k = i) := fun k => by
          have := unl_set hsz k
          simp only [unl] at this
          by_cases e : k = i
          · subst e; simp at this; simp [this]
          · simp only [e, ne_eq, not_false_eq_true, decide_true, Bool.and_true, Bool.not_inj_iff] at this
            rw [this]; simp [e]
        by_cases hvi : hv i = true
        · have hip : i ∉ p := fun h => by
            have := (hp i hlt hvi).2 h
            rw [hno] at this; cases this
          obtain ⟨l, hlm, hlp⟩ := hne
          have hpt : (l.filter hv).take p.length = p := (List.prefix_iff_eq_take.1 hlp).symm
          have hx := hok.ext l hlm p.length i hlt hvi (by rw [hpt]; exact hip)
          rw [hpt] at hx
          rcases hx with ⟨k, hk1, hk2, hk3, y, hy', hk4⟩ | ⟨l', hl', hpre⟩
          · exfalso
            rw [hy] at hy'
            simp at hy'; subst hy'
            refine hwait k hk1 ?_ hk4
            have : ¬ listed.getD k true = true := fun h => hk3 ((hp k hk1 hk2).1 h)
            simp only [unl]; simpa using this
          · refine ⟨p ++ [i], fun k hk hvk => ?_, ⟨l', hl', hpre⟩, fun l ⟨hl, hpl⟩ => ⟨(List.prefix_append p [i]).trans hpl, fun l1 l2 he _ k hk => ?_⟩⟩
            · rw [hlk, List.mem_append, List.mem_singleton, hp k hk hvk]
            · cases hvk : hv k with
              | false => rfl
              | true =>
                exfalso
                obtain ⟨q, hq'⟩ := hpl
                have e1 : (l.filter (unl listed)).filter hv = (l.filter hv).filter (unl listed) := by
                  rw [List.filter_filter, List.filter_filter]; congr 1; funext a; rw [Bool.and_comm]
                obtain ⟨_, i1, i2⟩ := filter_set hsz (hok.nd l hl) he
                have hpn : p.filter (unl listed) = [] := by
                  rw [List.filter_eq_nil_iff]
                  intro b hb
                  have hbl : b ∈ l.filter hv := by rw [← hq']; simp [hb]
                  by_cases hbs : b < ops.size
                  · have := (hp b hbs (List.mem_filter.1 hbl).2).2 hb
                    simp only [unl]; rw [this]; simp
                  · simp [unl, Array.getD_eq_getD_getElem?, Array.getElem?_eq_none (by omega : listed.size ≤ b)]
                have hui : unl listed i = true := by simp [unl, hno]
                rw [he, ← hq', List.filter_append, List.filter_append, List.filter_append, hpn, List.filter_cons, List.filter_cons, if_pos hvi, if_pos hui] at e1
                simp only [List.filter_nil, List.nil_append, List.cons_append] at e1
                have hkl : k ∈ l1.filter hv := List.mem_filter.2 ⟨hk, hvk⟩
                cases hc : l1.filter hv with
                | nil => rw [hc] at hkl; simp at hkl
                | cons b bs =>
                  rw [hc] at e1
                  simp only [List.cons_append, List.cons.injEq] at e1
                  have : b ∈ l1.filter hv := by rw [hc]; simp
                  rw [e1.1] at this
                  exact i1 (List.mem_filter.1 this).1
        · refine ⟨p, fun k hk hvk => ?_, hne, fun l ⟨hl, hpl⟩ => ⟨hpl, fun l1 l2 he h => absurd h hvi⟩⟩
          rw [hlk, ← hp k hk hvk]
          constructor
          · rintro (h | rfl)
            · exact h
            · exact absurd hvk hvi
          · exact .inl
      have hstep : ∀ l, l ∈ Ls ∧ p' <+: l.filter hv → stepS P n ops S (hasD D i) ops[i] s (fun s' => opsS P n ops S D (l.filter (unl (listed.setIfInBounds i true))) s' K) := by
        intro l hl
        obtain ⟨hpl, hm2⟩ := hmov l hl
        have hr := hrun l ⟨hl.1, hpl⟩
        have him : i ∈ l.filter (unl listed) := List.mem_filter.2 ⟨hok.all l hl.1 i hlt, by simp [unl, hno]⟩
        obtain ⟨l1, l2, he⟩ := List.append_of_mem him
        obtain ⟨e2, i1, i2⟩ := filter_set hsz (hok.nd l hl.1) he
        have hpw : (l1 ++ i :: l2).Pairwise (fun k i => (hv k = true ∧ hv i = true) ∨ pOk D ops k i = true) := by rw [← he]; exact (hok.pw l hl.1).filter _
        rw [he] at hr
        have hfront := opsS_front hy l1 l2 s hS (fun k hk x hx => by
          have h1 := (List.pairwise_append.1 hpw).2.2 k hk i (by simp)
          have hku : unl listed k = true := by
            have : k ∈ l.filter (unl listed) := by rw [he]; simp [hk]
            exact (List.mem_filter.1 this).2
          have hks : k < ops.size := by
            rcases Nat.lt_or_ge k ops.size with h | h
            · exact h
            · rw [Array.getElem?_eq_none h] at hx; simp at hx
          rcases h1 with ⟨h1, h2⟩ | h1
          · have := hm2 l1 l2 he h2 k hk
            rw [h1] at this; cases this
          · unfold pOk at h1
            rw [hx, hy] at h1
            simp only [Bool.or_eq_true] at h1
            rcases h1 with h1 | h1
            · exact (hwait k hks hku h1).elim
            · exact h1) hr
        simp only [opsS] at hfront
        obtain ⟨y, hy', hst⟩ := hfront
        rw [hy] at hy'
        simp at hy'; subst hy'
        rw [e2]
        exact hst
      obtain ⟨l0, hl0, hl0p⟩ := hne'
      have hall := stepS_fam (F := fun l => l ∈ Ls ∧ p' <+: l.filter hv) (A := fun l s' => opsS P n ops S D (l.filter (unl (listed.setIfInBounds i true))) s' K) hu hS (l0 := l0) ⟨hl0, hl0p⟩ hstep
      refine stepS_real hS hy hall ha (fun j' s1 a' w' h1 h2 hS1 hrest => ?_)
      refine ih (listed.setIfInBounds i true) p' s1 j' a' w' (by simpa using hs) hcl' ?_ hS1 ⟨l0, hl0, hl0p⟩ hp' hrest h1 (fun j'' s'' a'' w'' g1 g2 g3 => hq j'' s'' a'' w'' g1 (h2.trans g2) g3)
      obtain ⟨l1, l2, e1, e2, e3⟩ := left_split hs hlt hno
      rw [e2]
      rw [e1] at hf
      simp at hf ⊢
      omega

def pwB (R : Nat → Nat → Bool) : List Nat → Bool
  | [] => true
  | k :: l => l.all (R k) && pwB R l
theorem pwB_of {R : Nat → Nat → Bool} : ∀ {l : List Nat}, pwB R l = true → l.Pairwise (fun a b => R a b = true)
  | [], _ => .nil
  | k :: l, h => by
    simp only [pwB, Bool.and_eq_true, List.all_eq_true] at h
    exact .cons h.1 (pwB_of h.2)
def wt (ops : Array Oper) (i k : Nat) : Bool := match ops[i]? with | some y => waitsT ops 6 y k | none => false
/-- Orders enough: all orders of the named operations that can come, one list for each; all others change places. -/
def famOk (D : List Nat) (ops : Array Oper) (hv : List Nat) (Ls : List (List Nat)) : Bool :=
  (List.range ops.size).all (fun i => match ops[i]? with | some y => (y.after.all fun e => !Region.binds .any e || decide (e.on < i)) && (userCall y.op).isNone | none => true) &&
  Ls.all (fun l => pwB (fun a b => decide (a ≠ b)) l && l.all (fun i => decide (i < ops.size)) && (List.range ops.size).all (fun i => l.contains i) && pwB (fun k i => (hv.contains k && hv.contains i) || pOk D ops k i) l) &&
  Ls.all (fun l => (List.range ((l.filter hv.contains).length + 1)).all fun m => hv.all fun i => ((l.filter hv.contains).take m).contains i || hv.any (fun k => decide (k < ops.size) && (!((l.filter hv.contains).take m).contains k && wt ops i k)) || Ls.any fun l' => (((l.filter hv.contains).take m) ++ [i]).isPrefixOf (l'.filter hv.contains))
theorem fam_of {D : List Nat} {ops : Array Oper} {hv : List Nat} {Ls : List (List Nat)} (h : famOk D ops hv Ls = true) : Fam D ops hv.contains Ls := by
  simp only [famOk, Bool.and_eq_true] at h
  obtain ⟨⟨h1, h2⟩, h3⟩ := h
  have one : ∀ (i : Nat) (y : Oper), ops[i]? = some y → (∀ e ∈ y.after, Region.binds .any e = true → e.on < i) ∧ userCall y.op = none := by
    intro i y hy
    have hi : i < ops.size := by
      rcases Nat.lt_or_ge i ops.size with h | h
      · exact h
      · rw [Array.getElem?_eq_none h] at hy; simp at hy
    have := List.all_eq_true.1 h1 i (by simpa using hi)
    rw [hy] at this
    simp only [Bool.and_eq_true] at this
    refine ⟨fun e he hb => ?_, by simpa using this.2⟩
    have h1 := Array.all_eq_true.1 this.1
    obtain ⟨m, hm, rfl⟩ := Array.mem_iff_getElem.1 he
    have := h1 m hm
    simpa [hb] using this
  have two : ∀ l ∈ Ls, _ := List.all_eq_true.1 h2
  refine ⟨fun i y hy => (one i y hy).1, fun i y hy => (one i y hy).2, fun l hl => ?_, fun l hl i hi => ?_, fun l hl i hi => ?_, fun l hl => ?_, fun l hl m i hi hvi hnot => ?_⟩
  · have := two l hl
    simp only [Bool.and_eq_true] at this
    exact (pwB_of this.1.1.1).imp (fun h => by simpa using h)
  · have := two l hl
    simp only [Bool.and_eq_true] at this
    have := List.all_eq_true.1 this.1.1.2 i hi
    simpa using this
  · have := two l hl
    simp only [Bool.and_eq_true] at this
    have := List.all_eq_true.1 this.1.2 i (by simpa using hi)
    simpa using this
  · have := two l hl
    simp only [Bool.and_eq_true] at this
    exact (pwB_of this.2).imp (fun h => by simpa only [Bool.or_eq_true, Bool.and_eq_true] using h)
  · have key : ∃ m', (l.filter hv.contains).take m = (l.filter hv.contains).take m' ∧ m' < (l.filter hv.contains).length + 1 := by
      rcases Nat.lt_or_ge m ((l.filter hv.contains).length + 1) with h | h
      · exact ⟨m, rfl, h⟩
      · exact ⟨(l.filter hv.contains).length, by rw [List.take_of_length_le (by omega), List.take_length], by omega⟩
    obtain ⟨m', e, hm'⟩ := key
    rw [e] at hnot ⊢
    have := List.all_eq_true.1 h3 l hl
    have := List.all_eq_true.1 this m' (by simpa using hm')
    have := List.all_eq_true.1 this i (by simpa using hvi)
    simp only [Bool.or_eq_true] at this
    rcases this with (this | this) | this
    · exact absurd (by simpa using this) hnot
    · obtain ⟨k, hk, hk2⟩ := List.any_eq_true.1 this
      simp only [Bool.and_eq_true, decide_eq_true_eq, Bool.not_eq_true'] at hk2
      obtain ⟨k1, k2, k3⟩ := hk2
      refine .inl ⟨k, k1, by simpa using hk, fun hm => ?_, ?_⟩
      · rw [List.contains_iff_mem.2 hm] at k2; cases k2
      · unfold wt at k3
        split at k3
        · exact ⟨_, by assumption, k3⟩
        · cases k3
    · obtain ⟨l', hl', hp⟩ := List.any_eq_true.1 this
      exact .inr ⟨l', hl', List.isPrefixOf_iff_prefix.1 hp⟩

/-! ### As one steps through it -/
def atN : List Oper → Nat → (Oper → Prop) → Prop
  | [], _, _ => False
  | o :: _, 0, f => f o
  | _ :: l, k + 1, f => atN l k f
theorem atN_zero (o : Oper) (l : List Oper) (f : Oper → Prop) : atN (o :: l) 0 f = f o := rfl
theorem atN_succ (o : Oper) (l : List Oper) (k : Nat) (f : Oper → Prop) : atN (o :: l) (k + 1) f = atN l k f := rfl
theorem atN_of : ∀ {l : List Oper} {k : Nat} {f : Oper → Prop}, atN l k f → ∃ o, l[k]? = some o ∧ f o
  | [], _, _, h => h.elim
  | o :: _, 0, _, h => ⟨o, rfl, h⟩
  | _ :: l, k + 1, _, h => by
    obtain ⟨o, h1, h2⟩ := atN_of (l := l) h
    exact ⟨o, by simpa using h1, h2⟩
def opsL (P : Program) (n : Nat) (l : List Oper) (S : Heap → Prop) (D : List Nat) : List Nat → St → (St → Prop) → Prop
  | [], s, K => K s
  | i :: is, s, K => atN l i (fun o => opsNS P n l.toArray S D i [o] s (fun s' => opsL P n l S D is s' K))
theorem opsL_nil (n : Nat) (l : List Oper) (S : Heap → Prop) (D : List Nat) (s : St) (K : St → Prop) : opsL P n l S D [] s K = K s := rfl
theorem opsL_cons (n : Nat) (l : List Oper) (S : Heap → Prop) (D : List Nat) (i : Nat) (is : List Nat) (s : St) (K : St → Prop) : opsL P n l S D (i :: is) s K = atN l i (fun o => opsNS P n l.toArray S D i [o] s (fun s' => opsL P n l S D is s' K)) := rfl
theorem opsNS_one {n : Nat} {ops : Array Oper} {S : Heap → Prop} {D : List Nat} {K : St → Prop} {o : Oper} {i : Nat} {s : St} (hS : S s.H) (h : opsNS P n ops S D i [o] s K) : stepS P n ops S (hasD D i) o s K := by
  simp only [opsNS] at h
  split at h
  · rename_i hg
    split at h
    · rename_i hd
      split at h
      · rename_i t x hop
        obtain ⟨hdk, r, h1, h2⟩ := h
        rw [hd]
        refine ⟨hdk, fun r1 H1 => r1 = r ∧ H1 = s.H, ?_, ?_⟩
        · simp only [legS, if_true]
          refine ⟨⟨r, s.H, rfl, rfl⟩, .inl ⟨by simp [gst, hg], r, fun H2 h3 => ?_, fun _ _ => Iff.rfl⟩⟩
          have h4 : sload P H2 t (sval s.σ x) = some r := h1 H2 h3
          rw [hop]
          simp only [sop, h4]
        · rintro _ _ ⟨rfl, rfl⟩
          exact ⟨hS, h2⟩
      · rename_i t x lo hi mx hop
        obtain ⟨hdk, r, h1, h2⟩ := h
        rw [hd]
        refine ⟨hdk, fun r1 H1 => r1 = r ∧ H1 = s.H, ?_, ?_⟩
        · simp only [legS, if_true]
          refine ⟨⟨r, s.H, rfl, rfl⟩, .inl ⟨by simp [gst, hg], r, fun H2 h3 => ?_, fun _ _ => Iff.rfl⟩⟩
          have h4 : sslice P H2 t (globO x (sval s.σ x)) (lo.map (sval s.σ)) (hi.map (sval s.σ)) (mx.map (sval s.σ)) = some r := h1 H2 h3
          rw [hop]
          simp only [sop, h4]
        · rintro _ _ ⟨rfl, rfl⟩
          exact ⟨hS, h2⟩
      · exact h.elim
    · rename_i hd
      have hd : hasD D i = false := by simpa using hd
      rw [hd]
      split at h
      · exact stepN_S (stepN_mono (opN_leg (by simp [gst, hg]) h) fun s' g => ⟨g.1, g.2⟩)
      · rename_i hh
        have hh : heavy o.op = false := by simpa using hh
        refine stepN_S (stepN_mono (stepN_keep hh (opN_leg (by simp [gst, hg]) h)) fun s' g => ?_)
        have hS' : S s'.H := by rw [g.1]; exact hS
        exact ⟨hS', g.2⟩
  · exact h.elim
theorem opsS_of_opsL {n : Nat} {l : List Oper} {S : Heap → Prop} {D : List Nat} {K : St → Prop} : ∀ (is : List Nat) (s : St), S s.H → opsL P n l S D is s K → opsS P n l.toArray S D is s K
  | [], s, _, h => h
  | i :: is, s, hS, h => by
    rw [opsL_cons] at h
    obtain ⟨o, h1, h2⟩ := atN_of h
    exact ⟨o, by simpa using h1, stepS_mono (opsNS_one hS h2) fun s' hS' g => opsS_of_opsL is s' hS' g⟩
def opsLs (P : Program) (n : Nat) (l : List Oper) (S : Heap → Prop) (D : List Nat) : List (List Nat) → St → (St → Prop) → Prop
  | [], _, _ => True
  | is :: Ls, s, K => opsL P n l S D is s K ∧ opsLs P n l S D Ls s K
theorem opsLs_mem {n : Nat} {l : List Oper} {S : Heap → Prop} {D : List Nat} {s : St} {K : St → Prop} : ∀ {Ls : List (List Nat)}, opsLs P n l S D Ls s K → ∀ is ∈ Ls, opsL P n l S D is s K
  | [], _, is, h => by simp at h
  | is0 :: Ls, h, is, hm => by
    rcases List.mem_cons.1 hm with rfl | hm
    · exact h.1
    · exact opsLs_mem h.2 is hm
/-- A region that draws its order, operations that allocate among them: D the reads of what nothing changes, hv the operations whose orders matter, Ls one order of all for each order of these. -/
theorem SW.regionP {n : Nat} {id : Nat} {l : List Oper} {Q : Exit → St → Prop} {s : St} (S : Heap → Prop) (D hv : List Nat) (l0 : List Nat) (Ls : List (List Nat)) (hm : P.follows .mixedOrders = true) (hok : famOk D l.toArray hv (l0 :: Ls) = true) (hS : S s.H) (h : opsLs P n l S D (l0 :: Ls) s (Q .normal)) : SW P n (.region id l.toArray true) Q s := by
  intro j a w ha
  have hd : SAll n j s a w.drew := ⟨ha.rel.drew, ha.slots.nx ha.rel (Nx.drew j s.H w), ha.size, ha.defers⟩
  refine wp_region_any hm ?_
  have hleft : left l.toArray.size (Array.replicate l.toArray.size false) = List.range' 0 l.length := by
    unfold left
    rw [← List.range_eq_range']
    simp only [List.size_toArray]
    apply List.filter_eq_self.2
    intro k hk
    simp at hk
    simp [Array.getD_eq_getD_getElem?, hk]
  have hfam := fam_of hok
  refine wpAny_of_fam (K := Q .normal) hfam l.toArray.size _ [] s j a w.drew (by simp) (fun m y _ h => by simp [Array.getD_eq_getD_getElem?, Array.getElem?_replicate] at h; split at h <;> simp at h) (by rw [hleft]; simp) hS ⟨l0, by simp, List.nil_prefix⟩ ?_ ?_ hd (fun j' s' a' w' h1 h2 h3 => ⟨j', s', h1, (Nx.drew j s.H w).trans h2, h3⟩)
  · intro i hi _
    simp at hi
    simp [Array.getD_eq_getD_getElem?, hi]
  · rintro is ⟨hm, _⟩
    have hr := opsS_of_opsL (P := P) is s hS (opsLs_mem h is hm)
    have e : is.filter (unl (Array.replicate l.toArray.size false)) = is := List.filter_eq_self.2 fun k hk => by
      have := hfam.bd is hm k hk
      simp at this
      simp [unl, Array.getD_eq_getD_getElem?, this]
    rw [e]; exact hr
theorem LoadS.rptr {t : TypeId} {cs : List SV} {off : Nat} {S : Heap → Prop} {k : SV → Prop} (h : @bindV (sload P (hp [] 0) t (.rptr cs off)) ⟨k⟩) : @LoadS P t (.rptr cs off) ⟨S, k⟩ := by
  cases hs : sload P (hp [] 0) t (.rptr cs off) with
  | none => rw [hs] at h; exact h.elim
  | some r => rw [hs] at h; exact ⟨r, fun H2 _ => by rw [← hs]; rfl, h⟩
theorem SliceS.own {t : TypeId} {b off m cap sz : Nat} {ex : Bool} {lo hi mx : Option SV} {S : Heap → Prop} {k : SV → Prop} (h : @bindV (sslice P (hp [] 0) t (.own b off m cap sz ex) lo hi mx) ⟨k⟩) : @SliceS P t (.own b off m cap sz ex) lo hi mx ⟨S, k⟩ := by
  cases hs : sslice P (hp [] 0) t (.own b off m cap sz ex) lo hi mx with
  | none => rw [hs] at h; exact h.elim
  | some r => rw [hs] at h; exact ⟨r, fun H2 _ => by rw [← hs]; rfl, h⟩
attribute [go_sem ↓] opsL_nil opsL_cons atN_zero atN_succ
end Go.Sh

/-
  Regions that draw their order, further: the last operation, which waits for all others, may change what was read.
-/
namespace Go.Sh
set_option linter.unusedSimpArgs false
set_option linter.unusedVariables false
open Go Go.RowKit
variable {P : Program}

theorem left_splitZ {n i : Nat} {listed : Array Bool} (hs : n ≤ listed.size) (hi : i < n) (hl : listed.getD i true = false) :
    ∃ l1 l2, left n listed = l1 ++ i :: l2 ∧ left n (listed.setIfInBounds i true) = l1 ++ l2 ∧ (∀ k ∈ l1, k < i ∧ listed.getD k true = false) := by
  have hr : List.range n = List.range i ++ i :: List.range' (i + 1) (n - (i + 1)) := by
    rw [List.range_eq_range', List.range_eq_range']
    have : n = i + (1 + (n - (i + 1))) := by omega
    conv => lhs; rw [this]
    rw [← List.range'_append_1, ← List.range'_append_1]
    simp [List.range'_one]
  have hset : ∀ k, k ≠ i → (listed.setIfInBounds i true).getD k true = listed.getD k true := fun k hk => by
    simp [Array.getD_eq_getD_getElem?, Array.getElem?_setIfInBounds_ne (Ne.symm hk)]
  have hself : (listed.setIfInBounds i true).getD i true = true := by
    simp [Array.getD_eq_getD_getElem?, show i < listed.size by omega]
  refine ⟨(List.range i).filter fun k => !listed.getD k true, (List.range' (i + 1) (n - (i + 1))).filter fun k => !listed.getD k true, ?_, ?_, ?_⟩
  · unfold left
    rw [hr, List.filter_append, List.filter_cons_of_pos (by simp [hl])]
  · unfold left
    rw [hr, List.filter_append, List.filter_cons_of_neg (by simp [hself])]
    congr 1
    · exact List.filter_congr (fun k hk => by rw [hset k (by simp at hk; omega)])
    · exact List.filter_congr (fun k hk => by rw [hset k (by simp [List.mem_range'] at hk; omega)])
  · intro k hk
    simp at hk
    exact ⟨hk.1, by simpa using hk.2⟩

def drawOkZ (D : List Nat) (ops : Array Oper) : Bool :=
  match ops.size with
  | 0 => false
  | m + 1 => ((List.range m).all fun i => match ops[i]? with
    | some y => (y.after.all fun e => !Region.binds .any e || decide (e.on < i)) && (List.range i).all fun k => match ops[k]? with
      | some x => waits y k || pairOkS D ops k i x y || waitsT ops 6 y k
      | none => true
    | none => true) && (match ops[m]? with
    | some y => (y.after.all fun e => !Region.binds .any e || decide (e.on < m)) && (List.range m).all fun k => waitsT ops 6 y k
    | none => false)
theorem wpAny_none {ops : Array Oper} {Q : Exit → Act → World → Prop} {fuel : Nat} {listed : Array Bool} {a : Act} {w : World} (hl : left ops.size listed = []) (hq : Q .normal a w) : wpAny P .any ops Q fuel listed a w := by
  have hno : ∀ i, i ∉ Region.ready .any ops listed := fun i hi => by
    have hm := List.mem_filter.1 hi
    simp only [Bool.and_eq_true] at hm
    have : i ∈ left ops.size listed := List.mem_filter.2 ⟨hm.1, hm.2.1⟩
    rw [hl] at this; simp at this
  cases fuel with
  | zero => exact ⟨List.eq_nil_iff_forall_not_mem.2 hno, hq⟩
  | succ fuel => exact ⟨fun _ => hq, fun i hi => absurd hi (hno i)⟩
theorem wpAny_of_opsZ {n : Nat} {ops : Array Oper} {S : Heap → Prop} {D : List Nat} {Q : Exit → Act → World → Prop} {K : St → Prop} {m : Nat} (hsz : ops.size = m + 1) (hok : drawOkZ D ops = true) : ∀ (fuel : Nat) (listed : Array Bool) (s : St) (j : JMap) (a : Act) (w : World), listed.size = ops.size → ClosedL ops listed →
    (left ops.size listed).length ≤ fuel → listed.getD m true = false → S s.H → opsS P n ops S D (left m listed) s (fun s' => ∃ o, ops[m]? = some o ∧ stepN P n ops o s' K) → SAll n j s a w → (∀ j' s' a' w', SAll n j' s' a' w' → Nx j s.H w j' s'.H w' → K s' → Q .normal a' w') → wpAny P .any ops Q fuel listed a w := by
  unfold drawOkZ at hok
  rw [hsz] at hok
  simp only [Bool.and_eq_true] at hok
  obtain ⟨hok, hokm⟩ := hok
  have hok1 : ∀ i y, i < m → ops[i]? = some y → (∀ e ∈ y.after, Region.binds .any e = true → e.on < i) ∧ ∀ k, k < i → ∀ x, ops[k]? = some x → waitsT ops 6 y k = true ∨ pairOkS D ops k i x y = true := by
    intro i y hi hy
    have := List.all_eq_true.1 hok i (by simpa using hi)
    rw [hy] at this
    simp only [Bool.and_eq_true] at this
    refine ⟨fun e he hb => ?_, fun k hk x hx => ?_⟩
    · have h1 := Array.all_eq_true.1 this.1
      obtain ⟨m, hm, rfl⟩ := Array.mem_iff_getElem.1 he
      have := h1 m hm
      simpa [hb] using this
    · have := List.all_eq_true.1 this.2 k (by simpa using hk)
      rw [hx] at this
      simp only [Bool.or_eq_true] at this
      rcases this with (h | h) | h
      · exact .inl (by simp only [waitsT, h, Bool.true_or])
      · exact .inr h
      · exact .inl h
  have hokM : ∀ y, ops[m]? = some y → (∀ e ∈ y.after, Region.binds .any e = true → e.on < m) ∧ ∀ k, k < m → waitsT ops 6 y k = true := by
    intro y hy
    rw [hy] at hokm
    simp only [Bool.and_eq_true] at hokm
    refine ⟨fun e he hb => ?_, fun k hk => List.all_eq_true.1 hokm.2 k (by simpa using hk)⟩
    have h1 := Array.all_eq_true.1 hokm.1
    obtain ⟨q, hq, rfl⟩ := Array.mem_iff_getElem.1 he
    have := h1 q hq
    simpa [hb] using this
  have hok' : ∀ i y, ops[i]? = some y → (∀ e ∈ y.after, Region.binds .any e = true → e.on < i) := by
    intro i y hy
    have hi : i < ops.size := by
      rcases Nat.lt_or_ge i ops.size with h | h
      · exact h
      · rw [Array.getElem?_eq_none h] at hy; simp at hy
    rcases Nat.lt_or_ge i m with h | h
    · exact (hok1 i y h hy).1
    · obtain rfl : i = m := by omega
      exact (hokM y hy).1
  have ready_nil : ∀ listed : Array Bool, listed.size = ops.size → Region.ready .any ops listed = [] → left ops.size listed = [] := by
    intro listed hs hr
    cases hl : left ops.size listed with
    | nil => rfl
    | cons i rest =>
      exfalso
      have hmem : i ∈ left ops.size listed := by rw [hl]; simp
      have hi := List.mem_filter.1 hmem
      have hlt : i < ops.size := by simpa using hi.1
      have hsmall : ∀ k, k < i → listed.getD k true = true := by
        intro k hk
        cases hk' : listed.getD k true with
        | true => rfl
        | false =>
          exfalso
          have hkm : k ∈ left ops.size listed := List.mem_filter.2 ⟨by simp; omega, by simp [hk']⟩
          have hsorted : (left ops.size listed).Pairwise (· < ·) := (List.pairwise_lt_range).filter _
          rw [hl] at hsorted hkm
          rcases List.mem_cons.1 hkm with rfl | h
          · omega
          · have := (List.pairwise_cons.1 hsorted).1 k h
            omega
      have : i ∈ Region.ready .any ops listed := by
        refine List.mem_filter.2 ⟨by simpa using hlt, ?_⟩
        rw [Array.getElem?_eq_getElem hlt]
        simp only [Option.map_some, Option.getD_some, Bool.and_eq_true]
        refine ⟨hi.2, Array.all_eq_true.2 (fun m hm => ?_)⟩
        cases hb : Region.binds .any (ops[i]).after[m] with
        | false => simp
        | true =>
          have h1 := hok' i ops[i] (Array.getElem?_eq_getElem hlt) _ (Array.getElem_mem hm) hb
          have h2 := hsmall _ h1
          have h3 : listed.getD ((ops[i]).after[m]).on false = true := by
            rw [Array.getD_eq_getD_getElem?, Array.getElem?_eq_getElem (by omega)] at h2 ⊢
            simpa using h2
          simp [h3]
      rw [hr] at this
      simp at this
  intro fuel
  induction fuel with
  | zero =>
    intro listed s j a w hs hcl hf hm0 hS hrun ha hq
    exfalso
    have : m ∈ left ops.size listed := List.mem_filter.2 ⟨by simp; omega, by simp [hm0]⟩
    have hl : left ops.size listed = [] := by simpa using hf
    rw [hl] at this; simp at this
  | succ fuel ih =>
    intro listed s j a w hs hcl hf hm0 hS hrun ha hq
    refine ⟨fun hr => ?_, fun i hi => ?_⟩
    · exfalso
      have : m ∈ left ops.size listed := List.mem_filter.2 ⟨by simp; omega, by simp [hm0]⟩
      rw [ready_nil listed hs hr] at this; simp at this
    · have hm := List.mem_filter.1 hi
      simp only [Bool.and_eq_true] at hm
      have hlt : i < ops.size := by simpa using hm.1
      have hno : listed.getD i true = false := by simpa using hm.2.1
      have hy : ops[i]? = some ops[i] := Array.getElem?_eq_getElem hlt
      have hdir : ∀ e ∈ (ops[i]).after, Region.binds .any e = true → listed.getD e.on false = true := by
        intro e he hb
        have hall := hm.2.2
        rw [hy] at hall
        simp only [Option.map_some, Option.getD_some] at hall
        obtain ⟨m, hm', rfl⟩ := Array.mem_iff_getElem.1 he
        have := Array.all_eq_true.1 hall m hm'
        rw [hb] at this
        simpa only [Bool.not_true, Bool.false_or] using this
      have hset : ∀ m, listed.getD m false = true → (listed.setIfInBounds i true).getD m false = true := by
        intro m h
        by_cases hmi : m = i
        · subst hmi
          simp [Array.getD_eq_getD_getElem?, hs, hlt]
        · rw [Array.getD_eq_getD_getElem?] at h ⊢
          rw [Array.getElem?_setIfInBounds_ne (Ne.symm hmi)]
          exact h
      have hcl' : ClosedL ops (listed.setIfInBounds i true) := by
        intro m y hmy hlm e he hb
        by_cases hmi : m = i
        · subst hmi
          rw [hy] at hmy
          simp at hmy
          subst hmy
          exact hset _ (hdir e he hb)
        · refine hset _ (hcl m y hmy ?_ e he hb)
          rw [Array.getD_eq_getD_getElem?] at hlm ⊢
          rwa [Array.getElem?_setIfInBounds_ne (Ne.symm hmi)] at hlm
      by_cases him : i = m
      · subst him
        have hall : ∀ k, k < i → listed.getD k true = true := fun k hk => by
          have := waitsT_listed hcl 6 _ hdir ((hokM _ hy).2 k hk)
          rw [Array.getD_eq_getD_getElem?, Array.getElem?_eq_getElem (by omega)] at this ⊢
          simpa using this
        have hl0 : left i listed = [] := by
          unfold left
          rw [List.filter_eq_nil_iff]
          intro k hk
          rw [hall k (by simpa using hk)]; simp
        rw [hl0] at hrun
        simp only [opsS] at hrun
        obtain ⟨o, ho, hst⟩ := hrun
        refine stepN_real ho hst ha (fun j' s1 a' w' h1 h2 hrest => ?_)
        refine wpAny_none ?_ (hq j' s1 a' w' h1 h2 hrest)
        unfold left
        rw [List.filter_eq_nil_iff]
        intro k hk
        have hk : k < ops.size := by simpa using hk
        by_cases hki : k = i
        · subst hki
          simp [Array.getD_eq_getD_getElem?, hs, hlt]
        · have := hall k (by omega)
          have e : (listed.setIfInBounds i true).getD k true = listed.getD k true := by simp [Array.getD_eq_getD_getElem?, Array.getElem?_setIfInBounds_ne (Ne.symm hki)]
          rw [e, this]; simp
      have hlm : i < m := by omega
      obtain ⟨l1, l2, e1, e2, e3⟩ := left_splitZ (n := m) (by omega) hlm hno
      rw [e1] at hrun
      have hfront := opsS_front hy l1 l2 s hS (fun k hk x hx => by
        obtain ⟨hk1, hk2⟩ := e3 k hk
        refine ((hok1 i _ hlm hy).2 k hk1 x hx).resolve_left (fun hw => ?_)
        have := waitsT_listed hcl 6 _ hdir hw
        rw [Array.getD_eq_getD_getElem?, Array.getElem?_eq_getElem (by omega)] at this hk2
        simp at this hk2
        rw [this] at hk2; simp at hk2) hrun
      simp only [opsS] at hfront
      obtain ⟨y, hy', hstep⟩ := hfront
      refine stepS_real hS hy' hstep ha (fun j' s1 a' w' h1 h2 hS1 hrest => ?_)
      refine ih (listed.setIfInBounds i true) s1 j' a' w' (by simpa using hs) hcl' ?_ ?_ hS1 (by rw [e2]; exact hrest) h1 (fun j'' s'' a'' w'' g1 g2 g3 => hq j'' s'' a'' w'' g1 (h2.trans g2) g3)
      · obtain ⟨l1', l2', f1, f2, _⟩ := left_splitZ (n := ops.size) (by omega) hlt hno
        rw [f2]
        rw [f1] at hf
        simp at hf ⊢
        omega
      · have e : (listed.setIfInBounds i true).getD m true = listed.getD m true := by simp [Array.getD_eq_getD_getElem?, Array.getElem?_setIfInBounds_ne (Ne.symm (fun h => him h.symm))]
        rw [e]; exact hm0

theorem opsZ_join {n : Nat} {ops : Array Oper} {S : Heap → Prop} {D : List Nat} {K K' : St → Prop} : ∀ (l : List Nat) (s : St), opsS P n ops S D l s K → (∀ s, K s → K' s) → opsS P n ops S D l s K'
  | [], s, h, hk => hk s h
  | i :: l, s, h, hk => by
    obtain ⟨o, ho, h⟩ := h
    exact ⟨o, ho, stepS_mono h fun s' _ g => opsZ_join l s' g hk⟩
theorem opsS_of_opsNSZ {n : Nat} {ops : Array Oper} {S : Heap → Prop} {D : List Nat} {K : St → Prop} : ∀ (rest : List Oper) (i : Nat) (_ : ∀ k, k < rest.length → rest[k]? = ops[i + k]?) (s : St), S s.H → opsNS P n ops S D i rest s K → opsS P n ops S D (List.range' i rest.length) s K
  | [], i, _, s, _, h => by simpa only [List.length_nil, List.range'_zero, opsS, opsNS] using h
  | o :: rest, i, hops, s, hS, h => by
    have ho : ops[i]? = some o := by simpa using (hops 0 (by simp)).symm
    have hrest : ∀ k, k < rest.length → rest[k]? = ops[i + 1 + k]? := fun k hk => by
      have := hops (k + 1) (by simpa using hk)
      simpa [Nat.add_assoc, Nat.add_comm 1 k] using this
    simp only [List.length_cons, List.range'_succ, opsS]
    refine ⟨o, ho, ?_⟩
    have hk : ∀ s', S s'.H → opsNS P n ops S D (i + 1) rest s' K → opsS P n ops S D (List.range' (i + 1) rest.length) s' K := fun s' hS' h' => opsS_of_opsNSZ rest (i + 1) hrest s' hS' h'
    simp only [opsNS] at h
    split at h
    · rename_i hg
      split at h
      · rename_i hd
        split at h
        · rename_i t x hop
          obtain ⟨hdk, r, h1, h2⟩ := h
          rw [hd]
          refine ⟨hdk, fun r1 H1 => r1 = r ∧ H1 = s.H, ?_, ?_⟩
          · simp only [legS, if_true]
            refine ⟨⟨r, s.H, rfl, rfl⟩, .inl ⟨by simp [gst, hg], r, fun H2 h3 => ?_, fun _ _ => Iff.rfl⟩⟩
            have h4 : sload P H2 t (sval s.σ x) = some r := h1 H2 h3
            rw [hop]
            simp only [sop, h4]
          · rintro _ _ ⟨rfl, rfl⟩
            exact ⟨hS, hk _ hS h2⟩
        · rename_i t x lo hi mx hop
          obtain ⟨hdk, r, h1, h2⟩ := h
          rw [hd]
          refine ⟨hdk, fun r1 H1 => r1 = r ∧ H1 = s.H, ?_, ?_⟩
          · simp only [legS, if_true]
            refine ⟨⟨r, s.H, rfl, rfl⟩, .inl ⟨by simp [gst, hg], r, fun H2 h3 => ?_, fun _ _ => Iff.rfl⟩⟩
            have h4 : sslice P H2 t (globO x (sval s.σ x)) (lo.map (sval s.σ)) (hi.map (sval s.σ)) (mx.map (sval s.σ)) = some r := h1 H2 h3
            rw [hop]
            simp only [sop, h4]
          · rintro _ _ ⟨rfl, rfl⟩
            exact ⟨hS, hk _ hS h2⟩
        · exact h.elim
      · rename_i hd
        have hd : hasD D i = false := by simpa using hd
        rw [hd]
        split at h
        · refine stepN_S (stepN_mono (opN_leg (by simp [gst, hg]) h) fun s' g => ⟨g.1, hk s' g.1 g.2⟩)
        · rename_i hh
          have hh : heavy o.op = false := by simpa using hh
          refine stepN_S (stepN_mono (stepN_keep hh (opN_leg (by simp [gst, hg]) h)) fun s' g => ?_)
          have hS' : S s'.H := by rw [g.1]; exact hS
          exact ⟨hS', hk s' hS' g.2⟩
    · exact h.elim

theorem SW.regionZ {n : Nat} {id : Nat} {l : List Oper} {o : Oper} {Q : Exit → St → Prop} {s : St} (S : Heap → Prop) (D : List Nat) (hm : P.follows .mixedOrders = true) (hok : drawOkZ D (l ++ [o]).toArray = true) (hS : S s.H)
    (h : opsNS P n (l ++ [o]).toArray S D 0 l s (fun s' => o.guard = none ∧ opN P n o s' (Q .normal))) : SW P n (.region id (l ++ [o]).toArray true) Q s := by
  intro j a w ha
  have hrun := opsS_of_opsNSZ l 0 (fun k hk => ?_) s hS h
  · have hd : SAll n j s a w.drew := ⟨ha.rel.drew, ha.slots.nx ha.rel (Nx.drew j s.H w), ha.size, ha.defers⟩
    refine wp_region_any hm ?_
    have hsz : (l ++ [o]).toArray.size = l.length + 1 := by simp
    have hleft : left l.length (Array.replicate (l ++ [o]).toArray.size false) = List.range' 0 l.length := by
      unfold left
      rw [← List.range_eq_range']
      apply List.filter_eq_self.2
      intro k hk
      simp at hk
      simp [Array.getD_eq_getD_getElem?, show k < l.length + 1 by omega]
    have hleft2 : (left (l ++ [o]).toArray.size (Array.replicate (l ++ [o]).toArray.size false)).length ≤ (l ++ [o]).toArray.size := by
      unfold left
      exact Nat.le_trans (List.length_filter_le _ _) (by simp)
    refine wpAny_of_opsZ (m := l.length) hsz hok (l ++ [o]).toArray.size _ s j a w.drew (by simp) (fun m y _ h => by simp [Array.getD_eq_getD_getElem?, Array.getElem?_replicate] at h; split at h <;> simp at h) hleft2 (by simp [Array.getD_eq_getD_getElem?]) hS (by rw [hleft]; exact opsZ_join _ _ hrun fun s' ⟨g1, g2⟩ => ⟨o, by simp, opN_leg (by simp [gst, g1]) g2⟩) hd (fun j' s' a' w' h1 h2 h3 => ⟨j', s', h1, (Nx.drew j s.H w).trans h2, h3⟩)
  · rw [Nat.zero_add]
    simp [List.getElem?_append_left hk]
def initZ : List Oper → List Oper
  | [] => []
  | [_] => []
  | o :: p :: l => o :: initZ (p :: l)
def lastZ (K : Oper → Prop) : List Oper → Prop
  | [] => False
  | [o] => K o
  | _ :: p :: l => lastZ K (p :: l)
theorem initZ_nil : initZ [] = [] := rfl
theorem initZ_one (o : Oper) : initZ [o] = [] := rfl
theorem initZ_cons (o p : Oper) (l : List Oper) : initZ (o :: p :: l) = o :: initZ (p :: l) := rfl
theorem lastZ_one (K : Oper → Prop) (o : Oper) : lastZ K [o] = K o := rfl
theorem lastZ_cons (K : Oper → Prop) (o p : Oper) (l : List Oper) : lastZ K (o :: p :: l) = lastZ K (p :: l) := rfl
theorem lastZ_of {K : Oper → Prop} : ∀ {l : List Oper}, lastZ K l → ∃ o, l = initZ l ++ [o] ∧ K o
  | [], h => h.elim
  | [o], h => ⟨o, rfl, h⟩
  | o :: p :: l, h => by
    obtain ⟨q, e, hq⟩ := lastZ_of (l := p :: l) h
    exact ⟨q, by rw [initZ, List.cons_append, ← e], hq⟩
theorem initZ_app : ∀ (l : List Oper), l ≠ [] → ∃ o, l = initZ l ++ [o]
  | [], h => absurd rfl h
  | [o], _ => ⟨o, rfl⟩
  | o :: p :: l, _ => by
    obtain ⟨q, e⟩ := initZ_app (p :: l) (by simp)
    exact ⟨q, by rw [initZ, List.cons_append, ← e]⟩
theorem lastZ_app {K : Oper → Prop} {o : Oper} : ∀ {l : List Oper}, lastZ K (l ++ [o]) → K o
  | [], h => h
  | [p], h => h
  | p :: q :: l, h => lastZ_app (l := q :: l) h
theorem SW.regionZ' {n : Nat} {id : Nat} {ops : Array Oper} {Q : Exit → St → Prop} {s : St} (S : Heap → Prop) (D : List Nat) (hm : P.follows .mixedOrders = true) (hok : drawOkZ D ops = true) (hS : S s.H)
    (h : opsNS P n ops S D 0 (initZ ops.toList) s (fun s' => lastZ (fun o => o.guard = none ∧ opN P n o s' (Q .normal)) ops.toList)) : SW P n (.region id ops true) Q s := by
  obtain ⟨l⟩ := ops
  have hne : l ≠ [] := by
    rintro rfl
    simp [drawOkZ] at hok
  obtain ⟨o, e⟩ := initZ_app l hne
  simp only at h
  generalize initZ l = l' at *
  subst e
  refine SW.regionZ S D hm hok hS ?_
  have hK : (fun s' => lastZ (fun o => o.guard = none ∧ opN P n o s' (Q .normal)) (l' ++ [o])) = fun s' => o.guard = none ∧ opN P n o s' (Q .normal) := by
    funext s'
    have key : ∀ (K : Oper → Prop) (l : List Oper), lastZ K (l ++ [o]) = K o := by
      intro K l
      induction l with
      | nil => rfl
      | cons p l ih => cases l with
        | nil => rfl
        | cons q l => exact ih
    exact key _ _
  rw [hK] at h
  exact h
/-- All regions that draw: by the first rule, or, where named, by the second; one by the third. -/
def drawsOk5 (D r : List Nat) (E : List Nat) : Code → Bool
  | .region id ops draw => !draw || (if hasD r id = true then drawOkZ E ops else if hasD D id then drawOkN ops else drawOk ops)
  | .seq a b => drawsOk5 D r E a && drawsOk5 D r E b
  | .cond _ a b => drawsOk5 D r E a && drawsOk5 D r E b
  | .block _ c => drawsOk5 D r E c
  | .loop c => drawsOk5 D r E c
  | _ => true
def vc5 (P : Program) (D r : List Nat) (S : Heap → Prop) (E : List Nat) (n : Nat) : Code → (Exit → St → Prop) → St → Prop
  | .skip, Q, s => Q .normal s
  | .label _, Q, s => Q .normal s
  | .region id ops draw, Q, s => if draw = true then (if hasD r id = true then S s.H ∧ opsNS P n ops S E 0 (initZ ops.toList) s (fun s' => lastZ (fun o => o.guard = none ∧ opN P n o s' (Q .normal)) ops.toList) else if hasD D id = true then opsN P n ops ops.toList s (Q .normal) else opsW P n true ops ops.toList s (Q .normal)) else opsW P n false ops ops.toList s (Q .normal)
  | .seq a b, Q, s => vc5 P D r S E n a (seqQ (fun s' => vc5 P D r S E n b Q s') Q) s
  | .cond c a b, Q, s => match sval s.σ c with
    | .val (.bool t) => (t = true → vc5 P D r S E n a Q s) ∧ (t = false → vc5 P D r S E n b Q s)
    | _ => False
  | .block id c, Q, s => vc5 P D r S E n c (blockQ id Q) s
  | .loop c, Q, s => SW P n (.loop c) Q s
  | .exit id, Q, s => Q (.exit id) s
  | .ret, Q, s => Q .ret s
  | _, _, _ => False
theorem SW_of_vc5 (D r : List Nat) (S : Heap → Prop) (E : List Nat) {n : Nat} (hm : P.follows .mixedOrders = true) : ∀ (c : Code) (Q : Exit → St → Prop) (s : St), drawsOk5 D r E c = true → vc5 P D r S E n c Q s → SW P n c Q s
  | .skip, Q, s, _, h => SW.skip h
  | .label _, Q, s, _, h => SW.label h
  | .region id ops draw, Q, s, hd, h => by
    cases draw with
    | false => exact SW.region (by simpa [vc5] using h)
    | true =>
      simp only [vc5, if_true] at h
      simp only [drawsOk5, Bool.not_true, Bool.false_or] at hd
      by_cases hr : hasD r id = true
      · rw [if_pos hr] at h hd
        exact SW.regionZ' S E hm hd h.1 h.2
      · rw [if_neg hr] at h hd
        by_cases hc : hasD D id = true
        · rw [if_pos hc] at h hd
          exact SW.regionN hm hd h
        · rw [if_neg hc] at h hd
          exact SW.regionD hm hd h
  | .seq a b, Q, s, hd, h => by
    simp only [drawsOk5, Bool.and_eq_true] at hd
    refine SW.seq (SW.mono (SW_of_vc5 D r S E hm a _ s hd.1 h) ?_)
    intro e s' he
    cases e with
    | normal => exact SW_of_vc5 D r S E hm b Q s' hd.2 he
    | _ => exact he
  | .cond c a b, Q, s, hd, h => by
    simp only [drawsOk5, Bool.and_eq_true] at hd
    simp only [vc5] at h
    split at h
    · rename_i t ht
      exact SW.cond ht (fun e => SW_of_vc5 D r S E hm a Q s hd.1 (h.1 e)) (fun e => SW_of_vc5 D r S E hm b Q s hd.2 (h.2 e))
    · exact h.elim
  | .block id c, Q, s, hd, h => SW.block (SW_of_vc5 D r S E hm c _ s (by simpa [drawsOk5] using hd) h)
  | .loop c, Q, s, _, h => h
  | .exit id, Q, s, _, h => SW.exit h
  | .ret, Q, s, _, h => SW.ret h
  | .rangeFunc _ _ _ _, _, _, _, h => h.elim
  | .scope _, _, _, _, h => h.elim
  | .goto _, _, _, _, h => h.elim
  | .refuse _, _, _, _, h => h.elim
section
variable (D r : List Nat) (S : Heap → Prop) (E : List Nat)
theorem vc5_skip (n : Nat) (Q : Exit → St → Prop) (s : St) : vc5 P D r S E n .skip Q s = Q .normal s := (rfl)
theorem vc5_label (n l : Nat) (Q : Exit → St → Prop) (s : St) : vc5 P D r S E n (.label l) Q s = Q .normal s := (rfl)
theorem vc5_regionF (n id : Nat) (l : List Oper) (Q : Exit → St → Prop) (s : St) : vc5 P D r S E n (.region id l.toArray false) Q s = opsW P n false l.toArray l s (Q .normal) := (rfl)
theorem vc5_regionT (n id : Nat) (l : List Oper) (Q : Exit → St → Prop) (s : St) : vc5 P D r S E n (.region id l.toArray true) Q s = if hasD r id = true then @needW (S s.H) ⟨opsNS P n l.toArray S E 0 (initZ l) s (fun s' => lastZ (fun o => o.guard = none ∧ opN P n o s' (Q .normal)) l)⟩ else if hasD D id = true then opsN P n l.toArray l s (Q .normal) else opsW P n true l.toArray l s (Q .normal) := (rfl)
theorem vc5_seq (n : Nat) (a b : Code) (Q : Exit → St → Prop) (s : St) : vc5 P D r S E n (.seq a b) Q s = vc5 P D r S E n a (seqQ (fun s' => vc5 P D r S E n b Q s') Q) s := (rfl)
theorem vc5_cond (n : Nat) (c : Operand) (a b : Code) (Q : Exit → St → Prop) (s : St) : vc5 P D r S E n (.cond c a b) Q s = @condW (sval s.σ c) ⟨vc5 P D r S E n a Q s, vc5 P D r S E n b Q s⟩ := (rfl)
theorem vc5_block (n id : Nat) (c : Code) (Q : Exit → St → Prop) (s : St) : vc5 P D r S E n (.block id c) Q s = vc5 P D r S E n c (blockQ id Q) s := (rfl)
theorem vc5_loop (n : Nat) (c : Code) (Q : Exit → St → Prop) (s : St) : vc5 P D r S E n (.loop c) Q s = @LoopW P n s ⟨c, Q⟩ := (rfl)
theorem vc5_exit (n id : Nat) (Q : Exit → St → Prop) (s : St) : vc5 P D r S E n (.exit id) Q s = Q (.exit id) s := (rfl)
theorem vc5_ret (n : Nat) (Q : Exit → St → Prop) (s : St) : vc5 P D r S E n .ret Q s = Q .ret s := (rfl)
end
attribute [go_sem ↓] initZ_nil initZ_one initZ_cons lastZ_one lastZ_cons vc5_skip vc5_label vc5_regionF vc5_regionT vc5_seq vc5_cond vc5_block vc5_loop vc5_exit vc5_ret
end Go.Sh

/-
  Drawing rules: known ones.
-/
namespace Go.Sh
set_option linter.unusedSimpArgs false
set_option linter.unusedVariables false
open Go Go.Proofs

def PickSQ (B : List Int) (L : List (List UInt8)) (H : Heap) (cb : Nat) (r : SV) (H' : Heap) : Prop := ∃ p, r = str p ∧ p ∈ L ∧ CurS B H cb H'
theorem Tryz.l1PickS_ok (B : List Int) (hB : B.length ≤ 1048576) (L : List (List UInt8)) (hL : L ≠ []) (hl : L.length ≤ 256) (H : Heap) (cb lb : Nat) (ex e2 : Bool) (hc : Cur B H cb) (hb : H.map lb = some ⟨strs L, e2⟩) (hne : lb ≠ cb) :
    CallS Tryz.prog 79 [.optr cb 0, .own lb 0 L.length L.length 1 ex] H (PickSQ B L H cb) := by
  have w := Tryz.l1Below_ok B hB L.length (by omega) H cb hc
  have hl0 : 0 < L.length := List.length_pos_iff.2 hL
  refine CallS.of_body Tryz.func79 rfl (by kernel_rfl) (by simp [Tryz.ntmps79]) ?_
  refine SW_of_vc Tryz.mixed _ _ _ (by kernel_rfl) ?_
  simp (disch := omega) only [Tryz.ntmps79, Tryz.results79, go_sem]
  refine w.callX ?_
  rintro r H' ⟨v, rfl, v0, v1, v2, hs⟩
  have v1 := v1 (by omega)
  obtain ⟨x, rfl⟩ := Int.eq_ofNat_of_zero_le v0
  have hx : x < L.length := by omega
  have hm : H'.map lb = some ⟨strs L, e2⟩ := by rw [hs.map hne, hb]
  have gx := strs_get hx
  have hfin : PickSQ B L H cb (str (L.getD x [])) H' := ⟨_, rfl, by simp [hx], hs⟩
  simp (disch := omega) only [Tryz.ntmps79, Tryz.results79, go_sem, hm, gx]
  exact hfin
theorem shift_nlG (k z b n : Nat) : shift k (nlG z b n) = nlG z (b + k) n := by
  unfold nlG
  split
  · simp only [shift]
  · simp only [shift]
theorem shiftL_cons (k : Nat) : ∀ C : List Con, shiftL k (cons C) = cons C
  | [] => rfl
  | c :: C => by
    have ih := shiftL_cons k C
    simp only [cons, List.flatMap_cons, con3, List.cons_append, List.nil_append, shiftL, shift] at ih ⊢
    rw [ih]
theorem RuH.merge {H H0 : Heap} {ob : Nat} {R : List (List Con)} {cs : List SV} {nm : Nat → Nat} (h : RuH H0 0 R ob cs nm) : RuH (H.merge H0) H.nb R (ob + H.nb) (shiftL H.nb cs) (fun i => nm i + H.nb) := by
  have hmap : ∀ b blk, H0.map b = some blk → (H.merge H0).map (b + H.nb) = some ⟨shiftL H.nb blk.cells, blk.ex⟩ := fun b blk hb => by
    simp only [Heap.merge]
    rw [if_neg (by omega), Nat.add_sub_cancel, hb]; rfl
  have hnb : (H.merge H0).nb = H.nb + H0.nb := rfl
  refine ⟨by rw [shiftL_length, h.ln], fun h0 => hmap _ _ (h.o h0), fun i hi => ?_, fun i j hi hj hi0 hj0 e => h.inj i j hi hj hi0 hj0 (by have e' : nm i + H.nb = nm j + H.nb := e; omega), fun h0 => ?_⟩
  · obtain ⟨g1, g2⟩ := h.row i hi
    refine ⟨by rw [shiftL_map, List.getElem?_map, g1, Option.map_some, shift_nlG], fun h0 => ?_⟩
    obtain ⟨k1, k2, k3, k4⟩ := g2 h0
    refine ⟨by rw [hmap _ _ k1, shiftL_cons], by omega, by rw [hnb]; omega, by show nm i + H.nb ≠ ob + H.nb; omega⟩
  · have := h.lo1 h0
    rw [hnb]; omega
section
variable {P : Program}
theorem FCall.callRu {f : FuncId} {args args' : List SV} {R : List (List Con)} {u : Bool} {H : Heap} {K : SV → Heap → Prop} (h : FCall P f args' (RuF R u)) (fu : Nat) (hv : viewL H fu args = some args')
    (k : ∀ H' ob cs nm, RuH H' H.nb R ob cs nm → H.nb ≤ H'.nb → (∀ b, b < H.nb → H'.map b = H.map b) → K (.tup [.agg [nlG 1 ob R.length], .val (.bool u)]) H') : @CallX P f args H ⟨K⟩ := by
  refine (h.callS fu hv).mono ?_
  rintro r H' ⟨r0, H0, ⟨ob, cs, nm, rfl, hR⟩, rfl, rfl⟩
  have hnb : (H.merge H0).nb = H.nb + H0.nb := rfl
  have := k (H.merge H0) (ob + H.nb) _ _ (hR.merge (H := H)) (by omega) (fun b hb => by simp only [Heap.merge]; rw [if_pos hb])
  simpa only [shift, shiftL, shift_nlG] using this
end
/-! ### The rules that are known -/
def kn (f t : Int) (b : Bool) : Con := (f, t, b)
def knownR : List (List (List Con)) := [
  [[kn 0 800 false, kn 5 800 false]],
  [[kn 0 900 false], [kn 1 500 false, kn 5 400 false]],
  [[kn 2 500 false, kn 4 700 false], [kn 5 1000 false]],
  [[kn 0 700 false, kn 4 500 true]],
  [[kn 1 1000 false], [kn 0 800 false, kn 3 500 false, kn 4 800 false], [kn 5 1000 false]],
  [[kn 5 500 true], [kn 5 500 false]],
  [[kn 0 600 false]]]
theorem known_valid : ∀ R ∈ knownR, isVR R = true := by decide
theorem dd {n : Nat} (h : ¬ n < 10) : Lib.decDigits n = Lib.decDigits (n / 10) ++ [UInt8.ofNat (48 + n % 10)] := by rw [Lib.decDigits, dif_neg h]
theorem dd1 {n : Nat} (h : n < 10) : Lib.decDigits n = [UInt8.ofNat (48 + n)] := by rw [Lib.decDigits, dif_pos h]
theorem it3 {a : Nat} (h1 : 100 ≤ a) (h2 : a < 1000) : Lib.itoa a = [UInt8.ofNat (48 + a / 10 / 10), UInt8.ofNat (48 + a / 10 % 10), UInt8.ofNat (48 + a % 10)] := by
  rw [Lib.itoa, if_neg (by omega), Int.toNat_natCast, dd (by omega), dd (by omega), dd1 (by omega)]; rfl
theorem it4 {a : Nat} (h1 : 1000 ≤ a) (h2 : a < 10000) : Lib.itoa a = [UInt8.ofNat (48 + a / 10 / 10 / 10), UInt8.ofNat (48 + a / 10 / 10 % 10), UInt8.ofNat (48 + a / 10 % 10), UInt8.ofNat (48 + a % 10)] := by
  rw [Lib.itoa, if_neg (by omega), Int.toNat_natCast, dd (by omega), dd (by omega), dd (by omega), dd1 (by omega)]; rfl
def knownS : List (List UInt8) := [[110, 97, 109, 101, 62, 61, 56, 48, 48, 44, 112, 104, 111, 110, 101, 62, 61, 56, 48, 48], [110, 97, 109, 101, 62, 61, 57, 48, 48, 32, 111, 114, 32, 116, 111, 107, 101, 110, 115, 62, 61, 53, 48, 48, 44, 112, 104, 111, 110, 101, 62, 61, 52, 48, 48], [115, 111, 117, 110, 100, 62, 61, 53, 48, 48, 44, 121, 101, 97, 114, 62, 61, 55, 48, 48, 32, 111, 114, 32, 112, 104, 111, 110, 101, 62, 61, 49, 48, 48, 48], [110, 97, 109, 101, 62, 61, 55, 48, 48, 44, 121, 101, 97, 114, 60, 53, 48, 48], [116, 111, 107, 101, 110, 115, 62, 61, 49, 48, 48, 48, 32, 111, 114, 32, 110, 97, 109, 101, 62, 61, 56, 48, 48, 44, 99, 105, 116, 121, 62, 61, 53, 48, 48, 44, 121, 101, 97, 114, 62, 61, 56, 48, 48, 32, 111, 114, 32, 112, 104, 111, 110, 101, 62, 61, 49, 48, 48, 48], [112, 104, 111, 110, 101, 60, 53, 48, 48, 32, 111, 114, 32, 112, 104, 111, 110, 101, 62, 61, 53, 48, 48], [110, 97, 109, 101, 62, 61, 54, 48, 48]]
theorem fmtR_of (R : List (List Con)) (hv : isVR R = true) : fmtR R = Lib.join (R.map fun T => Lib.join (T.map fun c => fname c.1.toNat ++ opB c.2.2 ++ Lib.itoa c.2.1) [44]) orB := by rw [fmtR, if_pos hv]; rfl
theorem known_fmt : knownR.map fmtR = knownS := by
  have i8 : Lib.itoa 800 = [56, 48, 48] := it3 (a := 800) (by omega) (by omega)
  have i9 : Lib.itoa 900 = [57, 48, 48] := it3 (a := 900) (by omega) (by omega)
  have i5 : Lib.itoa 500 = [53, 48, 48] := it3 (a := 500) (by omega) (by omega)
  have i4 : Lib.itoa 400 = [52, 48, 48] := it3 (a := 400) (by omega) (by omega)
  have i7 : Lib.itoa 700 = [55, 48, 48] := it3 (a := 700) (by omega) (by omega)
  have i6 : Lib.itoa 600 = [54, 48, 48] := it3 (a := 600) (by omega) (by omega)
  have i1 : Lib.itoa 1000 = [49, 48, 48, 48] := it4 (a := 1000) (by omega) (by omega)
  simp only [knownR, List.map_cons, List.map_nil]
  rw [fmtR_of _ (by decide), fmtR_of _ (by decide), fmtR_of _ (by decide), fmtR_of _ (by decide), fmtR_of _ (by decide), fmtR_of _ (by decide), fmtR_of _ (by decide)]
  simp only [List.map_cons, List.map_nil, kn, i8, i9, i5, i4, i7, i6, i1]
  rfl
theorem known_of {p : List UInt8} (h : p ∈ knownS) : ∃ R, isVR R = true ∧ fmtR R = p := by
  rw [← known_fmt] at h
  obtain ⟨R, hR, rfl⟩ := List.mem_map.1 h
  exact ⟨R, known_valid R hR, rfl⟩
/-- Rules drawn: at least one, each with tests. -/
def RuQ (B : List Int) (cb : Nat) (H : Heap) (r : SV) (H' : Heap) : Prop := ∃ R ob cs nm, r = .agg [nlG 1 ob R.length] ∧ RuH H' H.nb R ob cs nm ∧ DS B cb H H' ∧ (1 ≤ R.length ∧ R.length ≤ 3) ∧ ∀ i, i < R.length → 1 ≤ (rg R i).length ∧ (rg R i).length ≤ 3
set_option maxRecDepth 20000 in
set_option maxHeartbeats 8000000 in
theorem Tryz.l14Known_ok (B : List Int) (hB : B.length ≤ 1048576) (H : Heap) (cb : Nat) (hc : Cur B H cb) (hcb : cb < H.nb) : CallS Tryz.prog 62 [.optr cb 0] H (RuQ B cb H) := by
  have hcs : [str [110, 97, 109, 101, 62, 61, 56, 48, 48, 44, 112, 104, 111, 110, 101, 62, 61, 56, 48, 48], str [110, 97, 109, 101, 62, 61, 57, 48, 48, 32, 111, 114, 32, 116, 111, 107, 101, 110, 115, 62, 61, 53, 48, 48, 44, 112, 104, 111, 110, 101, 62, 61, 52, 48, 48], str [115, 111, 117, 110, 100, 62, 61, 53, 48, 48, 44, 121, 101, 97, 114, 62, 61, 55, 48, 48, 32, 111, 114, 32, 112, 104, 111, 110, 101, 62, 61, 49, 48, 48, 48], str [110, 97, 109, 101, 62, 61, 55, 48, 48, 44, 121, 101, 97, 114, 60, 53, 48, 48], str [116, 111, 107, 101, 110, 115, 62, 61, 49, 48, 48, 48, 32, 111, 114, 32, 110, 97, 109, 101, 62, 61, 56, 48, 48, 44, 99, 105, 116, 121, 62, 61, 53, 48, 48, 44, 121, 101, 97, 114, 62, 61, 56, 48, 48, 32, 111, 114, 32, 112, 104, 111, 110, 101, 62, 61, 49, 48, 48, 48], str [112, 104, 111, 110, 101, 60, 53, 48, 48, 32, 111, 114, 32, 112, 104, 111, 110, 101, 62, 61, 53, 48, 48], str [110, 97, 109, 101, 62, 61, 54, 48, 48]] = strs knownS := rfl
  have hrep : List.replicate 7 (SV.val (Value.string (sb []))) = [str [], str [], str [], str [], str [], str [], str []] := rfl
  have e1 := DS.push hc hcb ⟨[.val (.slice none 0 0)], true⟩
  have e2 := e1.trans (DS.push e1.cur (by rw [hpush_nb]; omega) ⟨strs knownS, false⟩)
  have wp := Tryz.l1PickS_ok B hB knownS (by decide) (by decide) ((H.push ⟨[.val (.slice none 0 0)], true⟩).push ⟨strs knownS, false⟩) cb (H.nb + 1) false false e2.cur (by rw [hpush_map, if_pos (by rw [hpush_nb])]) (by omega)
  refine CallS.of_body Tryz.func62 rfl (by kernel_rfl) (by simp [Tryz.ntmps62]) ?_
  refine SW_of_vc Tryz.mixed _ _ _ (by kernel_rfl) ?_
  simp (disch := omega) only [Tryz.ntmps62, Tryz.results62, go_sem, hrep, List.set_cons_zero, List.set_cons_succ, List.length_cons, List.length_nil, hcs, hpush_nb]
  clear hcs hrep
  refine wp.callX ?_
  rintro r H1 ⟨p, rfl, hp, hs⟩
  obtain ⟨R, hv, rfl⟩ := known_of hp
  obtain ⟨hR13, hok⟩ := isVR_facts hv
  have hd1 := e2.trans hs.ds
  have hnb1 : H1.nb = H.nb + 1 + 1 := hs.nb
  have hm0 : H1.map H.nb = some ⟨[.val (.slice none 0 0)], true⟩ := by rw [hs.map (by omega), hpush_map, if_neg (by rw [hpush_nb]; omega), hpush_map, if_pos rfl]
  simp (disch := omega) only [Tryz.ntmps62, Tryz.results62, go_sem, hpush_nb]
  refine (Tryz.specPR_f R hv).callRu 0 (viewL_cons_of view_str viewL_nil_of) ?_
  intro H2 ob cs nm hRu hnb2 hfr
  have hd2 : DS B cb H1 H2 := ⟨by obtain ⟨i, x, hi, e⟩ := hd1.cur; exact ⟨i, x, hi, by rw [hfr cb (by omega), e]⟩, hnb2, fun b hb _ => hfr b hb⟩
  have hm2 : H2.map H.nb = some ⟨[.val (.slice none 0 0)], true⟩ := by rw [hfr _ (by omega), hm0]
  have e0 := nlG_f (z := 1) (b := ob) (by omega : R.length ≠ 0)
  have hd3 := hd1.trans hd2
  have hd4 := hd3.trans (DS.push hd3.cur (by omega) ⟨[.val (.slice none 0 0)], true⟩)
  rw [e0]
  simp (disch := omega) only [Tryz.ntmps62, Tryz.results62, go_sem, hm2, hset_map, hpush_map, hset_nb, hpush_nb]
  have hd5 := (hd4.setF H2.nb (by omega) (by omega) (some ⟨[.own ob 0 R.length R.length 1 false], true⟩)).setF H.nb (by omega) (by omega) (some ⟨[.own ob 0 R.length R.length 1 false], true⟩)
  refine ⟨R, ob, cs, nm, by rw [e0], (hRu.fr ?_ fun b b1 b2 => ?_).low (by omega), hd5, by omega, fun i hi => (hok _ (rg_mem hi)).1⟩
  · simp only [hset_nb, hpush_nb]; omega
  · simp (disch := omega) only [hset_map, hpush_map, hset_nb, hpush_nb, if_neg, ↓reduceIte]
end Go.Sh

/-
  Drawing rules.
-/
namespace Go.Sh
set_option linter.unusedSimpArgs false
set_option linter.unusedVariables false
open Go Go.Proofs

theorem cons_snoc2 (C : List Con) (a b : Int) (s : Bool) : cons C ++ [.val (.int .i64 a), .val (.int .i64 b), .val (.bool s)] = cons (C ++ [(a, b, s)]) := by simp [cons, con3]
theorem ints4 (a b c d : Int) : [SV.val (.int .i64 a), .val (.int .i64 b), .val (.int .i64 c), .val (.int .i64 d)] = ints [a, b, c, d] := rfl
theorem repI4' : List.replicate 4 (SV.val (.int .i64 0)) = [SV.val (.int .i64 0), SV.val (.int .i64 0), SV.val (.int .i64 0), SV.val (.int .i64 0)] := rfl
set_option maxRecDepth 20000 in
set_option maxHeartbeats 16000000 in
theorem Tryz.l14Rules_ok (B : List Int) (hB : B.length ≤ 1048576) (H : Heap) (cb : Nat) (hc : Cur B H cb) (hcb : cb < H.nb) : CallS Tryz.prog 41 [.optr cb 0] H (RuQ B cb H) := by
  have e1 := DS.push hc hcb ⟨[.val (.slice none 0 0)], true⟩
  have w1 := Tryz.l1Once_ok B hB 2 (by omega) (H.push ⟨[.val (.slice none 0 0)], true⟩) cb e1.cur
  refine CallS.of_body Tryz.func41 rfl (by kernel_rfl) (by simp [Tryz.ntmps41]) ?_
  refine SW_of_vc5 [] [12] (fun _ => True) [1] Tryz.mixed _ _ _ (by kernel_rfl) ?_
  simp (disch := omega) only [Tryz.ntmps41, Tryz.results41, go_sem]
  refine w1.callX ?_
  rintro r H0 ⟨b, rfl, hs⟩
  have hd0 := e1.trans hs.ds
  have hnb0 : H0.nb = H.nb + 1 := hs.nb
  have hm0 : H0.map H.nb = some ⟨[.val (.slice none 0 0)], true⟩ := by rw [hs.map (by omega), hpush_map, if_pos rfl]
  cases b with
  | true =>
    simp (disch := omega) only [Tryz.ntmps41, Tryz.results41, go_sem, hpush_nb]
    refine (Tryz.l14Known_ok B hB H0 cb hd0.cur (by omega)).callX ?_
    rintro r H2 ⟨R, ob, cs, nm, rfl, hRu, hd2, hR, hok⟩
    have hnb2 := hd2.nb
    have hm2 : H2.map H.nb = some ⟨[.val (.slice none 0 0)], true⟩ := by rw [hd2.fr _ (by omega) (by omega), hm0]
    have e0 := nlG_f (z := 1) (b := ob) (by omega : R.length ≠ 0)
    have hd3 := (hd0.trans hd2).setF H.nb (by omega) (by omega) (some ⟨[.own ob 0 R.length R.length 1 false], true⟩)
    have hfin : RuQ B cb H (.agg [.own ob 0 R.length R.length 1 false]) (H2.set H.nb (some ⟨[.own ob 0 R.length R.length 1 false], true⟩)) := by
      refine ⟨R, ob, cs, nm, by rw [e0], (hRu.fr (by rw [hset_nb]; exact Nat.le_refl _) fun b b1 b2 => by rw [hset_map, if_neg (by omega)]).low (by omega), hd3, hR, hok⟩
    rw [e0]
    simp (disch := omega) only [Tryz.ntmps41, Tryz.results41, go_sem, hm2, hset_map, hpush_map, hset_nb, hpush_nb]
    exact hfin
  | false =>
    have e3 := hd0.trans (DS.push hd0.cur (by omega) ⟨[.val (.slice none 0 0)], true⟩)
    have e4 := e3.setF H0.nb (by omega) (by omega) (some ⟨[.val (.slice none 0 0)], true⟩)
    have w3 := Tryz.l1Below_ok B hB 3 (by omega) ((H0.push ⟨[.val (.slice none 0 0)], true⟩).set H0.nb (some ⟨[.val (.slice none 0 0)], true⟩)) cb e4.cur
    simp (disch := omega) only [Tryz.ntmps41, Tryz.results41, go_sem, hset_map, hpush_map, hset_nb, hpush_nb]
    refine w3.callX ?_
    rintro r H1 ⟨v, rfl, v0, v1, v2, hs1⟩
    have v1 := v1 (by omega)
    obtain ⟨q, rfl⟩ := Int.eq_ofNat_of_zero_le v0
    have hd1 := e4.trans hs1.ds
    have hnb1 : H1.nb = H0.nb + 1 := hs1.nb
    have hmA : H1.map H.nb = some ⟨[.val (.slice none 0 0)], true⟩ := by rw [hs1.map (by omega), hset_map, if_neg (by omega), hpush_map, if_neg (by omega), hm0]
    have hmB : H1.map H0.nb = some ⟨[.val (.slice none 0 0)], true⟩ := by rw [hs1.map (by omega), hset_map, if_pos rfl]
    have hq1 : (1 : Int) + (q : Int) = ((q + 1 : Nat) : Int) := by omega
    clear hs1 w3 w1 e1 e3 e4 hs
    simp (disch := omega) only [Tryz.ntmps41, Tryz.results41, go_sem, hq1]
    refine LoopW.loop (fun y : Nat × List (List Con) × Nat × List SV × (Nat → Nat) × Heap => ⟨ofL [(0, .optr cb 0), (2, .optr H.nb 0), (3, .optr H0.nb 0), (4, .val (.int .i64 y.1))], y.2.2.2.2.2⟩)
      (fun y => y.2.1.length + y.1 ≤ 3 ∧ 1 ≤ y.2.1.length + y.1 ∧ RuH y.2.2.2.2.2 (H0.nb + 1) y.2.1 y.2.2.1 y.2.2.2.1 y.2.2.2.2.1 ∧ (∀ i, i < y.2.1.length → 1 ≤ (rg y.2.1 i).length ∧ (rg y.2.1 i).length ≤ 3) ∧ y.2.2.2.2.2.map H.nb = some ⟨[.val (.slice none 0 0)], true⟩ ∧ y.2.2.2.2.2.map H0.nb = some ⟨[nlG 1 y.2.2.1 y.2.1.length], true⟩ ∧ DS B cb H y.2.2.2.2.2 ∧ H0.nb + 1 ≤ y.2.2.2.2.2.nb) (fun y => y.1)
      (q + 1, [], 0, [], fun _ => 0, H1) ⟨by show 0 + (q + 1) ≤ 3; omega, by show 1 ≤ 0 + (q + 1); omega, RuH.nil, fun i hi => absurd hi (by simp), hmA, hmB, hd1, by show H0.nb + 1 ≤ H1.nb; omega⟩ (Wk.of (by simp only [go_sem, ↓List.forall_mem_cons, List.not_mem_nil, false_implies, implies_true, and_true, true_and, and_self, ri_eq, Int.natCast_add, Int.cast_ofNat_Int]; try simp) rfl) ?_
    clear hmA hmB hd1 hnb1 H1
    rintro ⟨n, R, ob, cs, nm, H1⟩ ⟨hn3, hn1, hRu, hok, hmA, hmB, hd, hnb1⟩
    simp only at hn3 hn1 hRu hok hmA hmB hd hnb1
    cases n with
    | zero =>
      have e0 := nlG_f (z := 1) (b := ob) (by omega : R.length ≠ 0)
      rw [e0] at hmB
      have hd3 := hd.setF H.nb (by omega) (by omega) (some ⟨[.own ob 0 R.length R.length 1 false], true⟩)
      have hfin : RuQ B cb H (.agg [.own ob 0 R.length R.length 1 false]) (H1.set H.nb (some ⟨[.own ob 0 R.length R.length 1 false], true⟩)) :=
        ⟨R, ob, cs, nm, by rw [e0], (hRu.fr (by rw [hset_nb]; exact Nat.le_refl _) fun b b1 b2 => by rw [hset_map, if_neg (by omega)]).low (by omega), hd3, by omega, hok⟩
      refine SW_of_vc5 [] [12] (fun _ => True) [1] Tryz.mixed _ _ _ (by kernel_rfl) ?_
      simp (disch := omega) only [Tryz.ntmps41, Tryz.results41, go_sem, hmA, hmB, hset_map, hpush_map, hset_nb, hpush_nb]
      exact hfin
    | succ n =>
      have e5 := DS.push hd.cur (by omega) ⟨[.val (.slice none 0 0)], true⟩
      have e6 := e5.setF H1.nb (by omega) (by omega) (some ⟨[.val (.slice none 0 0)], true⟩)
      refine SW_of_vc5 [] [12] (fun _ => True) [1] Tryz.mixed _ _ _ (by kernel_rfl) ?_
      simp (disch := omega) only [Tryz.ntmps41, Tryz.results41, go_sem, hset_map, hpush_map, hset_nb, hpush_nb]
      refine LoopW.loop (fun y : Nat × List Con × Nat × Heap => ⟨ofL [(0, .optr cb 0), (2, .optr H.nb 0), (3, .optr H0.nb 0), (4, .val (.int .i64 (n + 1 : Nat))), (5, .optr H1.nb 0), (6, .val (.int .i64 y.1))], y.2.2.2⟩)
        (fun y => y.1 ≤ 6 ∧ y.2.1.length ≤ 3 ∧ (y.1 = 6 → 1 ≤ y.2.1.length) ∧ y.2.2.2.map H1.nb = some ⟨[nlG 3 y.2.2.1 y.2.1.length], true⟩ ∧ (y.2.1.length ≠ 0 → H1.nb < y.2.2.1 ∧ y.2.2.1 < y.2.2.2.nb ∧ y.2.2.2.map y.2.2.1 = some ⟨cons y.2.1, false⟩) ∧ DS B cb H1 y.2.2.2 ∧ H1.nb < y.2.2.2.nb) (fun y => 6 - y.1)
        (0, [], 0, (H1.push ⟨[.val (.slice none 0 0)], true⟩).set H1.nb (some ⟨[.val (.slice none 0 0)], true⟩)) ⟨by simp, by simp, fun h => absurd h (by simp), by show ((H1.push _).set _ _).map H1.nb = _; rw [hset_map, if_pos rfl]; rfl, fun h => absurd rfl h, e6, by show H1.nb < ((H1.push _).set _ _).nb; rw [hset_nb, hpush_nb]; omega⟩ (Wk.of (by simp only [go_sem, ↓List.forall_mem_cons, List.not_mem_nil, false_implies, implies_true, and_true, true_and, and_self, ri_eq, Int.natCast_add, Int.cast_ofNat_Int]; try simp) rfl) ?_
      clear e5 e6
      rintro ⟨f, T, tb, H2⟩ ⟨hf6, hT3, hfT, hmr, hmt, hd2, hnb2⟩
      simp only at hf6 hT3 hfT hmr hmt hd2 hnb2
      by_cases hlt : f < 6
      · refine SW_of_vc5 [] [12] (fun H => H.map H1.nb = some ⟨[nlG 3 tb T.length], true⟩) [1] Tryz.mixed _ _ _ (by kernel_rfl) ?_
        by_cases hl3 : T.length < 3
        · have wo := Tryz.l1Once_ok B hB 3 (by omega) H2 cb hd2.cur
          by_cases hz : T.length = 0
          · have e0 := nlG_t (z := 3) (b := tb) hz
            have hmr0 := hmr
            rw [e0] at hmr
            simp (disch := omega) only [Tryz.ntmps41, Tryz.results41, go_sem, hmr]
            refine wo.callX ?_
            rintro r H3 ⟨b, rfl, hs3⟩
            have hm3 : H3.map H1.nb = some ⟨[.val (.slice none 0 0)], true⟩ := by rw [hs3.map (by omega), hmr]
            have hnb3 : H3.nb = H2.nb := hs3.nb
            have hd3 := hd2.trans hs3.ds
            have e7 := hd3.trans (DS.push hd3.cur (by omega) ⟨ints [500, 700, 800, 1000], false⟩)
            have wp := Tryz.l1Pick_ok B hB [500, 700, 800, 1000] (by simp) (by simp) (H3.push ⟨ints [500, 700, 800, 1000], false⟩) cb H3.nb false false e7.cur (by rw [hpush_map, if_pos rfl]) (by omega)
            cases b with
            | true =>
              simp (disch := omega) only [Tryz.ntmps41, Tryz.results41, go_sem, hm3, e0]
              refine ⟨.val (.slice none 0 0), fun Hx hx => ?_, ?_⟩
              · have hx : Hx.map H1.nb = some ⟨[.val (.slice none 0 0)], true⟩ := hx
                simp (disch := omega) only [Tryz.ntmps41, Tryz.results41, go_sem, hx]
              simp (disch := omega) only [Tryz.ntmps41, Tryz.results41, go_sem, hm3, e0, repI4', List.set_cons_zero, List.set_cons_succ, List.length_cons, List.length_nil, ints4, hset_map, hpush_map, hset_nb, hpush_nb]
              refine CallS.callN wp (PickQ.ne (by simp) e7.cur) ?_
              rintro r H4 ⟨v, rfl, hv, hs4⟩
              have hnb4 : H4.nb = H3.nb + 1 := hs4.nb
              have hm4 : H4.map H1.nb = some ⟨[.val (.slice none 0 0)], true⟩ := by rw [hs4.map (by omega), hpush_map, if_neg (by omega), hm3]
              have hd4 := e7.trans hs4.ds
              have wo2 := Tryz.l1Once_ok B hB 6 (by omega) H4 cb hd4.cur
              simp (disch := omega) only [Tryz.ntmps41, Tryz.results41, go_sem, hm4, e0]
              refine CallS.callN wo2 (OnceQ.ne hd4.cur) ?_
              rintro r H5 ⟨b2, rfl, hs5⟩
              have hnb5 : H5.nb = H4.nb := hs5.nb
              have hm5 : H5.map H1.nb = some ⟨[.val (.slice none 0 0)], true⟩ := by rw [hs5.map (by omega), hm4]
              have hd5 := hd4.trans hs5.ds
              simp (disch := omega) only [Tryz.ntmps41, Tryz.results41, go_sem, hm5, e0, repC, hset_map, hpush_map, hset_nb, hpush_nb]
              have e8 := DS.push hd5.cur (by omega) ⟨[.val (.int .i64 f), .val (.int .i64 v), .val (.bool b2)], false⟩
              have e9 := e8.trans (DS.push e8.cur (by rw [hpush_nb]; omega) ⟨[.val (.int .i64 f), .val (.int .i64 v), .val (.bool b2)], false⟩)
              have e10 := (hd5.trans e9).setF H1.nb (by omega) (by omega) (some ⟨[.own (H5.nb + 1) 0 1 1 3 false], true⟩)
              refine ⟨(f + 1, [((f : Int), v, b2)], H5.nb + 1, _), ⟨hlt, by simp, fun _ => by simp, ?_, fun _ => ⟨?_, ?_, ?_⟩, e10, ?_⟩, by show 6 - (f + 1) < 6 - f; omega, Wk.of (by simp only [go_sem, ↓List.forall_mem_cons, List.not_mem_nil, false_implies, implies_true, and_true, true_and, and_self, ri_eq, Int.natCast_add, Int.cast_ofNat_Int]; try simp) rfl⟩
              · show Heap.map _ H1.nb = some ⟨[.own (H5.nb + 1) 0 1 1 3 false], true⟩
                simp (disch := omega) only [hset_map, hpush_map, hset_nb, hpush_nb, if_pos, if_neg, ↓reduceIte]
              · show H1.nb < H5.nb + 1; omega
              · simp only [hset_nb, hpush_nb]; omega
              · show Heap.map _ (H5.nb + 1) = some ⟨[.val (.int .i64 f), .val (.int .i64 v), .val (.bool b2)], false⟩
                simp (disch := omega) only [hset_map, hpush_map, hset_nb, hpush_nb, if_pos, if_neg, ↓reduceIte]
              · simp only [hset_nb, hpush_nb]; omega
            | false =>
              by_cases hf5 : f = 5
              · simp (disch := omega) only [Tryz.ntmps41, Tryz.results41, go_sem, hm3, e0]
                refine ⟨.val (.slice none 0 0), fun Hx hx => ?_, ?_⟩
                · have hx : Hx.map H1.nb = some ⟨[.val (.slice none 0 0)], true⟩ := hx
                  simp (disch := omega) only [Tryz.ntmps41, Tryz.results41, go_sem, hx]
                simp (disch := omega) only [Tryz.ntmps41, Tryz.results41, go_sem, hm3, e0, repI4', List.set_cons_zero, List.set_cons_succ, List.length_cons, List.length_nil, ints4, hset_map, hpush_map, hset_nb, hpush_nb]
                refine CallS.callN wp (PickQ.ne (by simp) e7.cur) ?_
                rintro r H4 ⟨v, rfl, hv, hs4⟩
                have hnb4 : H4.nb = H3.nb + 1 := hs4.nb
                have hm4 : H4.map H1.nb = some ⟨[.val (.slice none 0 0)], true⟩ := by rw [hs4.map (by omega), hpush_map, if_neg (by omega), hm3]
                have hd4 := e7.trans hs4.ds
                have wo2 := Tryz.l1Once_ok B hB 6 (by omega) H4 cb hd4.cur
                simp (disch := omega) only [Tryz.ntmps41, Tryz.results41, go_sem, hm4, e0]
                refine CallS.callN wo2 (OnceQ.ne hd4.cur) ?_
                rintro r H5 ⟨b2, rfl, hs5⟩
                have hnb5 : H5.nb = H4.nb := hs5.nb
                have hm5 : H5.map H1.nb = some ⟨[.val (.slice none 0 0)], true⟩ := by rw [hs5.map (by omega), hm4]
                have hd5 := hd4.trans hs5.ds
                simp (disch := omega) only [Tryz.ntmps41, Tryz.results41, go_sem, hm5, e0, repC, hset_map, hpush_map, hset_nb, hpush_nb]
                have e8 := DS.push hd5.cur (by omega) ⟨[.val (.int .i64 f), .val (.int .i64 v), .val (.bool b2)], false⟩
                have e9 := e8.trans (DS.push e8.cur (by rw [hpush_nb]; omega) ⟨[.val (.int .i64 f), .val (.int .i64 v), .val (.bool b2)], false⟩)
                have e10 := (hd5.trans e9).setF H1.nb (by omega) (by omega) (some ⟨[.own (H5.nb + 1) 0 1 1 3 false], true⟩)
                refine ⟨(f + 1, [((f : Int), v, b2)], H5.nb + 1, _), ⟨hlt, by simp, fun _ => by simp, ?_, fun _ => ⟨?_, ?_, ?_⟩, e10, ?_⟩, by show 6 - (f + 1) < 6 - f; omega, Wk.of (by simp only [go_sem, ↓List.forall_mem_cons, List.not_mem_nil, false_implies, implies_true, and_true, true_and, and_self, ri_eq, Int.natCast_add, Int.cast_ofNat_Int]; try simp) rfl⟩
                · show Heap.map _ H1.nb = some ⟨[.own (H5.nb + 1) 0 1 1 3 false], true⟩
                  simp (disch := omega) only [hset_map, hpush_map, hset_nb, hpush_nb, if_pos, if_neg, ↓reduceIte]
                · show H1.nb < H5.nb + 1; omega
                · simp only [hset_nb, hpush_nb]; omega
                · show Heap.map _ (H5.nb + 1) = some ⟨[.val (.int .i64 f), .val (.int .i64 v), .val (.bool b2)], false⟩
                  simp (disch := omega) only [hset_map, hpush_map, hset_nb, hpush_nb, if_pos, if_neg, ↓reduceIte]
                · simp only [hset_nb, hpush_nb]; omega
              · simp (disch := omega) only [Tryz.ntmps41, Tryz.results41, go_sem, hm3, e0]
                exact ⟨(f + 1, T, tb, H3), ⟨hlt, hT3, fun h => by simp only at h; omega, by show H3.map H1.nb = some ⟨[nlG 3 tb T.length], true⟩; rw [e0]; exact hm3, fun h => absurd hz h, hd3, by show H1.nb < H3.nb; omega⟩, by show 6 - (f + 1) < 6 - f; omega, Wk.of (by simp only [go_sem, ↓List.forall_mem_cons, List.not_mem_nil, false_implies, implies_true, and_true, true_and, and_self, ri_eq, Int.natCast_add, Int.cast_ofNat_Int]; try simp) rfl⟩
          · have e0 := nlG_f (z := 3) (b := tb) hz
            obtain ⟨m1, m2, mt⟩ := hmt hz
            have hmr0 := hmr
            rw [e0] at hmr
            simp (disch := omega) only [Tryz.ntmps41, Tryz.results41, go_sem, hmr]
            refine wo.callX ?_
            rintro r H3 ⟨b, rfl, hs3⟩
            have hm3 : H3.map H1.nb = some ⟨[.own tb 0 T.length T.length 3 false], true⟩ := by rw [hs3.map (by omega), hmr]
            have hmt3 : H3.map tb = some ⟨cons T, false⟩ := by rw [hs3.map (by omega), mt]
            have hnb3 : H3.nb = H2.nb := hs3.nb
            have hd3 := hd2.trans hs3.ds
            have e7 := hd3.trans (DS.push hd3.cur (by omega) ⟨ints [500, 700, 800, 1000], false⟩)
            have wp := Tryz.l1Pick_ok B hB [500, 700, 800, 1000] (by simp) (by simp) (H3.push ⟨ints [500, 700, 800, 1000], false⟩) cb H3.nb false false e7.cur (by rw [hpush_map, if_pos rfl]) (by omega)
            have hcl := cons_length T
            have htk : List.take (T.length * 3) (cons T) = cons T := List.take_of_length_le (by omega)
            cases b with
            | true =>
              simp (disch := omega) only [Tryz.ntmps41, Tryz.results41, go_sem, hm3, e0]
              refine ⟨.own tb 0 T.length T.length 3 false, fun Hx hx => ?_, ?_⟩
              · have hx : Hx.map H1.nb = some ⟨[.own tb 0 T.length T.length 3 false], true⟩ := hx
                simp (disch := omega) only [Tryz.ntmps41, Tryz.results41, go_sem, hx]
              simp (disch := omega) only [Tryz.ntmps41, Tryz.results41, go_sem, hm3, e0, repI4', List.set_cons_zero, List.set_cons_succ, List.length_cons, List.length_nil, ints4, hset_map, hpush_map, hset_nb, hpush_nb]
              refine CallS.callN wp (PickQ.ne (by simp) e7.cur) ?_
              rintro r H4 ⟨v, rfl, hv, hs4⟩
              have hnb4 : H4.nb = H3.nb + 1 := hs4.nb
              have hm4 : H4.map H1.nb = some ⟨[.own tb 0 T.length T.length 3 false], true⟩ := by rw [hs4.map (by omega), hpush_map, if_neg (by omega), hm3]
              have hmt4 : H4.map tb = some ⟨cons T, false⟩ := by rw [hs4.map (by omega), hpush_map, if_neg (by omega), hmt3]
              have hd4 := e7.trans hs4.ds
              have wo2 := Tryz.l1Once_ok B hB 6 (by omega) H4 cb hd4.cur
              simp (disch := omega) only [Tryz.ntmps41, Tryz.results41, go_sem, hm4, e0]
              refine CallS.callN wo2 (OnceQ.ne hd4.cur) ?_
              rintro r H5 ⟨b2, rfl, hs5⟩
              have hnb5 : H5.nb = H4.nb := hs5.nb
              have hm5 : H5.map H1.nb = some ⟨[.own tb 0 T.length T.length 3 false], true⟩ := by rw [hs5.map (by omega), hm4]
              have hmt5 : H5.map tb = some ⟨cons T, false⟩ := by rw [hs5.map (by omega), hmt4]
              have hd5 := hd4.trans hs5.ds
              have hsn := cons_snoc2 T (f : Int) v b2
              have hTl : (T ++ [((f : Int), v, b2)]).length = T.length + 1 := by simp
              simp (disch := omega) only [Tryz.ntmps41, Tryz.results41, go_sem, hm5, hmt5, hcl, htk, hsn, e0, repC, hset_map, hpush_map, hset_nb, hpush_nb]
              have e8 := DS.push hd5.cur (by omega) ⟨[.val (.int .i64 f), .val (.int .i64 v), .val (.bool b2)], false⟩
              have e9 := (hd5.trans e8).setF tb (by omega) (by omega) none
              have e10 := (e9.trans (DS.push e9.cur (by rw [hset_nb, hpush_nb]; omega) ⟨cons (T ++ [((f : Int), v, b2)]), false⟩)).setF H1.nb (by omega) (by omega) (some ⟨[.own (H5.nb + 1) 0 (T.length + 1) (T.length + 1) 3 false], true⟩)
              refine ⟨(f + 1, T ++ [((f : Int), v, b2)], H5.nb + 1, _), ⟨hlt, by show (T ++ [((f : Int), v, b2)]).length ≤ 3; omega, fun _ => by show 1 ≤ (T ++ [((f : Int), v, b2)]).length; omega, ?_, fun _ => ⟨?_, ?_, ?_⟩, e10, ?_⟩, by show 6 - (f + 1) < 6 - f; omega, Wk.of (by simp only [go_sem, ↓List.forall_mem_cons, List.not_mem_nil, false_implies, implies_true, and_true, true_and, and_self, ri_eq, Int.natCast_add, Int.cast_ofNat_Int]; try simp) rfl⟩
              · show Heap.map _ H1.nb = some ⟨[nlG 3 (H5.nb + 1) (T ++ [((f : Int), v, b2)]).length], true⟩
                rw [hTl, nlG_s]
                simp (disch := omega) only [hset_map, hpush_map, hset_nb, hpush_nb, if_pos, if_neg, ↓reduceIte]
              · show H1.nb < H5.nb + 1; omega
              · simp only [hset_nb, hpush_nb]; omega
              · show Heap.map _ (H5.nb + 1) = some ⟨cons (T ++ [((f : Int), v, b2)]), false⟩
                simp (disch := omega) only [hset_map, hpush_map, hset_nb, hpush_nb, if_pos, if_neg, ↓reduceIte]
              · simp only [hset_nb, hpush_nb]; omega
            | false =>
              by_cases hf5 : f = 5
              · simp (disch := omega) only [Tryz.ntmps41, Tryz.results41, go_sem, hm3, e0]
                exact ⟨(f + 1, T, tb, H3), ⟨hlt, hT3, fun _ => by show 1 ≤ T.length; omega, by show H3.map H1.nb = some ⟨[nlG 3 tb T.length], true⟩; rw [e0]; exact hm3, fun _ => ⟨m1, by show tb < H3.nb; omega, hmt3⟩, hd3, by show H1.nb < H3.nb; omega⟩, by show 6 - (f + 1) < 6 - f; omega, Wk.of (by simp only [go_sem, ↓List.forall_mem_cons, List.not_mem_nil, false_implies, implies_true, and_true, true_and, and_self, ri_eq, Int.natCast_add, Int.cast_ofNat_Int]; try simp) rfl⟩
              · simp (disch := omega) only [Tryz.ntmps41, Tryz.results41, go_sem, hm3, e0]
                exact ⟨(f + 1, T, tb, H3), ⟨hlt, hT3, fun _ => by show 1 ≤ T.length; omega, by show H3.map H1.nb = some ⟨[nlG 3 tb T.length], true⟩; rw [e0]; exact hm3, fun _ => ⟨m1, by show tb < H3.nb; omega, hmt3⟩, hd3, by show H1.nb < H3.nb; omega⟩, by show 6 - (f + 1) < 6 - f; omega, Wk.of (by simp only [go_sem, ↓List.forall_mem_cons, List.not_mem_nil, false_implies, implies_true, and_true, true_and, and_self, ri_eq, Int.natCast_add, Int.cast_ofNat_Int]; try simp) rfl⟩
        · have hz : T.length ≠ 0 := by omega
          have e0 := nlG_f (z := 3) (b := tb) hz
          have hmr0 := hmr
          rw [e0] at hmr
          simp (disch := omega) only [Tryz.ntmps41, Tryz.results41, go_sem, hmr]
          exact ⟨(f + 1, T, tb, H2), ⟨hlt, hT3, fun _ => by show 1 ≤ T.length; omega, hmr0, hmt, hd2, hnb2⟩, by show 6 - (f + 1) < 6 - f; omega, Wk.of (by simp only [go_sem, ↓List.forall_mem_cons, List.not_mem_nil, false_implies, implies_true, and_true, true_and, and_self, ri_eq, Int.natCast_add, Int.cast_ofNat_Int]; try simp) rfl⟩
      · obtain rfl : f = 6 := by omega
        have hT1 := hfT rfl
        have hz : T.length ≠ 0 := by omega
        have e0 := nlG_f (z := 3) (b := tb) hz
        obtain ⟨m1, m2, mt⟩ := hmt hz
        rw [e0] at hmr
        have hcl : cs.length = R.length := hRu.ln
        have hmB2 : H2.map H0.nb = some ⟨[nlG 1 ob R.length], true⟩ := by rw [hd2.fr _ (by omega) (by omega), hmB]
        have hmA2 : H2.map H.nb = some ⟨[.val (.slice none 0 0)], true⟩ := by rw [hd2.fr _ (by omega) (by omega), hmA]
        have hRl : (R ++ [T]).length = R.length + 1 := by simp
        have hok2 : ∀ i, i < (R ++ [T]).length → 1 ≤ (rg (R ++ [T]) i).length ∧ (rg (R ++ [T]) i).length ≤ 3 := fun i hi => by
          by_cases h : i < R.length
          · rw [rg_lt h]; exact hok i h
          · have : i = R.length := by omega
            subst this; rw [rg_at]; omega
        have hn1c : ((n + 1 : Nat) : Int) - 1 = (n : Int) := by omega
        refine SW_of_vc5 [] [12] (fun _ => True) [1] Tryz.mixed _ _ _ (by kernel_rfl) ?_
        by_cases hkz : R.length = 0
        · have f0 := nlG_t (z := 1) (b := ob) hkz
          rw [f0] at hmB2
          have hcs0 : cs = [] := List.length_eq_zero_iff.1 (by omega)
          simp (disch := omega) only [Tryz.ntmps41, Tryz.results41, go_sem, hmr, hmB2, hn1c, hset_map, hpush_map, hset_nb, hpush_nb]
          have e8 := (hd.trans hd2).trans (DS.push hd2.cur (by omega) ⟨[.own tb 0 T.length T.length 3 false], false⟩)
          have e9 := (e8.trans (DS.push e8.cur (by rw [hpush_nb]; omega) ⟨[.own tb 0 T.length T.length 3 false], false⟩)).setF H0.nb (by omega) (by omega) (some ⟨[.own (H2.nb + 1) 0 1 1 1 false], true⟩)
          refine ⟨(n, R ++ [T], H2.nb + 1, cs ++ [nlG 3 tb T.length], fun i => if i < R.length then nm i else tb, _), ⟨by show (R ++ [T]).length + n ≤ 3; omega, by show 1 ≤ (R ++ [T]).length + n; omega, ?_, hok2, ?_, ?_, e9, ?_⟩, by show n < n + 1; omega, Wk.of (by simp only [go_sem, ↓List.forall_mem_cons, List.not_mem_nil, false_implies, implies_true, and_true, true_and, and_self, ri_eq, Int.natCast_add, Int.cast_ofNat_Int]; try simp) rfl⟩
          · simp only
            refine hRu.snoc (by omega) ?_ (fun _ => ⟨?_, by omega, ?_, by omega⟩) (fun b b1 b2 b3 => ?_) ?_ ⟨by omega, ?_⟩
            · rw [e0, hcs0]
              simp (disch := omega) only [hset_map, hpush_map, hset_nb, hpush_nb, if_pos, if_neg, ↓reduceIte]
              rfl
            · simp (disch := omega) only [hset_map, hpush_map, hset_nb, hpush_nb, if_pos, if_neg, ↓reduceIte]
              exact mt
            · simp only [hset_nb, hpush_nb]; omega
            · simp (disch := omega) only [hset_map, hpush_map, hset_nb, hpush_nb, if_pos, if_neg, ↓reduceIte]
              exact hd2.fr b b2 (by omega)
            · simp only [hset_nb, hpush_nb]; omega
            · simp only [hset_nb, hpush_nb]; omega
          · simp only
            simp (disch := omega) only [hset_map, hpush_map, hset_nb, hpush_nb, if_pos, if_neg, ↓reduceIte]
            exact hmA2
          · show Heap.map _ H0.nb = some ⟨[nlG 1 (H2.nb + 1) (R ++ [T]).length], true⟩
            rw [hRl, hkz, nlG_s]
            simp (disch := omega) only [hset_map, hpush_map, hset_nb, hpush_nb, if_pos, if_neg, ↓reduceIte]
          · simp only [hset_nb, hpush_nb]; omega
        · have f0 := nlG_f (z := 1) (b := ob) hkz
          rw [f0] at hmB2
          obtain ⟨o1, o2⟩ := hRu.lo1 hkz
          have hmo : H2.map ob = some ⟨cs, false⟩ := by rw [hd2.fr ob o2 (by omega), hRu.o hkz]
          have htk : cs.take R.length = cs := List.take_of_length_le (by omega)
          simp (disch := omega) only [Tryz.ntmps41, Tryz.results41, go_sem, hmr, hmB2, hmo, hcl, htk, hn1c, hset_map, hpush_map, hset_nb, hpush_nb]
          have e8 := ((hd.trans hd2).trans (DS.push hd2.cur (by omega) ⟨[.own tb 0 T.length T.length 3 false], false⟩)).setF ob (by omega) (by omega) none
          have e9 := (e8.trans (DS.push e8.cur (by rw [hset_nb, hpush_nb]; omega) ⟨cs ++ [.own tb 0 T.length T.length 3 false], false⟩)).setF H0.nb (by omega) (by omega) (some ⟨[.own (H2.nb + 1) 0 (R.length + 1) (R.length + 1) 1 false], true⟩)
          refine ⟨(n, R ++ [T], H2.nb + 1, cs ++ [nlG 3 tb T.length], fun i => if i < R.length then nm i else tb, _), ⟨by show (R ++ [T]).length + n ≤ 3; omega, by show 1 ≤ (R ++ [T]).length + n; omega, ?_, hok2, ?_, ?_, e9, ?_⟩, by show n < n + 1; omega, Wk.of (by simp only [go_sem, ↓List.forall_mem_cons, List.not_mem_nil, false_implies, implies_true, and_true, true_and, and_self, ri_eq, Int.natCast_add, Int.cast_ofNat_Int]; try simp) rfl⟩
          · simp only
            refine hRu.snoc (by omega) ?_ (fun _ => ⟨?_, by omega, ?_, by omega⟩) (fun b b1 b2 b3 => ?_) ?_ ⟨by omega, ?_⟩
            · rw [e0]
              simp (disch := omega) only [hset_map, hpush_map, hset_nb, hpush_nb, if_pos, if_neg, ↓reduceIte]
            · simp (disch := omega) only [hset_map, hpush_map, hset_nb, hpush_nb, if_pos, if_neg, ↓reduceIte]
              exact mt
            · simp only [hset_nb, hpush_nb]; omega
            · have := b3 hkz
              simp (disch := omega) only [hset_map, hpush_map, hset_nb, hpush_nb, if_pos, if_neg, ↓reduceIte]
              exact hd2.fr b b2 (by omega)
            · simp only [hset_nb, hpush_nb]; omega
            · simp only [hset_nb, hpush_nb]; omega
          · simp only
            simp (disch := omega) only [hset_map, hpush_map, hset_nb, hpush_nb, if_pos, if_neg, ↓reduceIte]
            exact hmA2
          · show Heap.map _ H0.nb = some ⟨[nlG 1 (H2.nb + 1) (R ++ [T]).length], true⟩
            rw [hRl, nlG_s]
            simp (disch := omega) only [hset_map, hpush_map, hset_nb, hpush_nb, if_pos, if_neg, ↓reduceIte]
          · simp only [hset_nb, hpush_nb]; omega
end Go.Sh

/-
  Drawing rules of any kind.
-/
namespace Go.Sh
set_option linter.unusedSimpArgs false
set_option linter.unusedVariables false
open Go Go.Proofs

def AnyRQ (B : List Int) (cb : Nat) (H : Heap) (r : SV) (H' : Heap) : Prop := ∃ R ob cs nm, r = .agg [nlG 1 ob R.length] ∧ RuH H' H.nb R ob cs nm ∧ DS B cb H H' ∧ (1 ≤ R.length ∧ R.length ≤ 4) ∧ ∀ i, i < R.length → (rg R i).length ≤ 3
theorem ints3 (a b c : Int) : [SV.val (.int .i64 a), .val (.int .i64 b), .val (.int .i64 c)] = ints [a, b, c] := rfl
theorem repI3' : List.replicate 3 (SV.val (.int .i64 0)) = [SV.val (.int .i64 0), SV.val (.int .i64 0), SV.val (.int .i64 0)] := rfl
theorem RuH.frN {H H' : Heap} {lo ob : Nat} {R : List (List Con)} {cs : List SV} {nm : Nat → Nat} (h : RuH H lo R ob cs nm) (hn : H.nb ≤ H'.nb) (ho : R.length ≠ 0 → H'.map ob = H.map ob) (hf : ∀ i, i < R.length → (rg R i).length ≠ 0 → H'.map (nm i) = H.map (nm i)) : RuH H' lo R ob cs nm := by
  refine ⟨h.ln, fun h0 => by rw [ho h0, h.o h0], fun i hi => ⟨(h.row i hi).1, fun h0 => ?_⟩, h.inj, fun h0 => ?_⟩
  · obtain ⟨g1, g2, g3, g4⟩ := (h.row i hi).2 h0
    exact ⟨by rw [hf i hi h0, g1], g2, by omega, g4⟩
  · have := h.lo1 h0; omega
theorem cons_set0 {T : List Con} (h : T.length ≠ 0) (v : Int) : (cons T).set 0 (.val (.int .i64 v)) = cons ((v, (cg T 0).2.1, (cg T 0).2.2) :: T.tail) := by
  cases T with
  | nil => simp at h
  | cons c T => rfl
theorem cons_set1 {T : List Con} (h : T.length ≠ 0) (v : Int) : (cons T).set 1 (.val (.int .i64 v)) = cons (((cg T 0).1, v, (cg T 0).2.2) :: T.tail) := by
  cases T with
  | nil => simp at h
  | cons c T => rfl
set_option maxRecDepth 20000 in
set_option maxHeartbeats 16000000 in
theorem Tryz.l14Any_ok (B : List Int) (hB : B.length ≤ 1048576) (H : Heap) (cb : Nat) (hc : Cur B H cb) (hcb : cb < H.nb) : CallS Tryz.prog 22 [.optr cb 0] H (AnyRQ B cb H) := by
  have e1 := DS.push hc hcb ⟨[.val (.slice none 0 0)], true⟩
  have w1 := Tryz.l14Rules_ok B hB (H.push ⟨[.val (.slice none 0 0)], true⟩) cb e1.cur (by rw [hpush_nb]; omega)
  refine CallS.of_body Tryz.func22 rfl (by kernel_rfl) (by simp [Tryz.ntmps22]) ?_
  refine SW.seqW ⟨ofL [(0, .optr cb 0), (2, .optr H.nb 0)], H.push ⟨[.val (.slice none 0 0)], true⟩⟩ ?_ ?_
  · refine SW_of_vc Tryz.mixed _ _ _ (by kernel_rfl) ?_
    simp (disch := omega) only [Tryz.ntmps22, Tryz.results22, go_sem]
    exact Wk.of (by simp only [go_sem, ↓List.forall_mem_cons, List.not_mem_nil, false_implies, implies_true, and_true, true_and, and_self, ri_eq, Int.natCast_add, Int.cast_ofNat_Int]; try simp) rfl
  refine SW.seqI (fun y : Nat × List (List Con) × Nat × List SV × (Nat → Nat) × Heap => ⟨ofL [(0, .optr cb 0), (2, .optr H.nb 0), (3, .optr y.1 0)], y.2.2.2.2.2⟩)
    (fun y => RuH y.2.2.2.2.2 (H.nb + 1) y.2.1 y.2.2.1 y.2.2.2.1 y.2.2.2.2.1 ∧ DS B cb H y.2.2.2.2.2 ∧ (1 ≤ y.2.1.length ∧ y.2.1.length ≤ 3) ∧ (∀ i, i < y.2.1.length → 1 ≤ (rg y.2.1 i).length ∧ (rg y.2.1 i).length ≤ 3) ∧ y.2.2.2.2.2.map H.nb = some ⟨[.val (.slice none 0 0)], true⟩ ∧ y.2.2.2.2.2.map y.1 = some ⟨[.own y.2.2.1 0 y.2.1.length y.2.1.length 1 false], true⟩ ∧ H.nb < y.1 ∧ y.1 < y.2.2.2.2.2.nb ∧ y.1 ≠ y.2.2.1 ∧ (∀ i, i < y.2.1.length → y.2.2.2.2.1 i ≠ y.1)) ?_ ?_
  · refine SW_of_vc Tryz.mixed _ _ _ (by kernel_rfl) ?_
    simp (disch := omega) only [Tryz.ntmps22, Tryz.results22, go_sem]
    refine w1.callX ?_
    rintro r H1 ⟨R, ob, cs, nm, rfl, hRu, hd, hR, hok⟩
    have hd1 := e1.trans hd
    have hnb := hd.nb
    rw [hpush_nb] at hnb
    have hlo := hRu.lo1 (by omega)
    have e0 := nlG_f (z := 1) (b := ob) (by omega : R.length ≠ 0)
    have hm0 : H1.map H.nb = some ⟨[.val (.slice none 0 0)], true⟩ := by rw [hd.fr _ (by rw [hpush_nb]; omega) (by omega), hpush_map, if_pos rfl]
    rw [e0]
    simp (disch := omega) only [Tryz.ntmps22, Tryz.results22, go_sem, hset_map, hpush_map, hset_nb, hpush_nb]
    have e2 := (hd1.trans (DS.push hd1.cur (by omega) ⟨[.val (.slice none 0 0)], true⟩)).setF H1.nb (by omega) (by omega) (some ⟨[.own ob 0 R.length R.length 1 false], true⟩)
    refine ⟨(H1.nb, R, ob, cs, nm, _), ⟨(hRu.fr ?_ fun b b1 b2 => ?_).low (by rw [hpush_nb]; omega), e2, hR, hok, ?_, ?_, by show H.nb < H1.nb; omega, ?_, by show H1.nb ≠ ob; omega, fun i hi => ?_⟩, Wk.of (by simp only [go_sem, ↓List.forall_mem_cons, List.not_mem_nil, false_implies, implies_true, and_true, true_and, and_self, ri_eq, Int.natCast_add, Int.cast_ofNat_Int]; try simp) rfl⟩
    · simp only [hset_nb, hpush_nb]; omega
    · simp (disch := omega) only [hset_map, hpush_map, hset_nb, hpush_nb, if_pos, if_neg, ↓reduceIte]
    · simp only
      simp (disch := omega) only [hset_map, hpush_map, hset_nb, hpush_nb, if_pos, if_neg, ↓reduceIte]
      exact hm0
    · simp only
      simp (disch := omega) only [hset_map, hpush_map, hset_nb, hpush_nb, if_pos, if_neg, ↓reduceIte]
    · simp only [hset_nb, hpush_nb]; omega
    · have := ((hRu.row i hi).2 (by have := hok i hi; omega)).2.2.1
      show nm i ≠ H1.nb; omega
  rintro ⟨rb, R, ob, cs, nm, H1⟩ ⟨hRu, hd, ⟨hR1, hR3⟩, hok, hmA, hmB, hrb1, hrb2, hrb3, hrb4⟩
  simp only at hRu hd hR1 hR3 hok hmA hmB hrb1 hrb2 hrb3 hrb4
  have hlo := hRu.lo1 (by omega)
  have hmo := hRu.o (by omega)
  have hcl := hRu.ln
  obtain ⟨g1, g2⟩ := hRu.row 0 (by omega)
  have hok0 := hok 0 (by omega)
  have hT0 : (rg R 0).length ≠ 0 := by omega
  obtain ⟨g3, g4, g5, g6⟩ := g2 hT0
  rw [nlG_f hT0] at g1
  have hrn0 := hrb4 0 (by omega)
  refine SW_of_vc5 [] [4, 6] (fun Hx => Hx.map rb = some ⟨[.own ob 0 R.length R.length 1 false], true⟩ ∧ Hx.map ob = some ⟨cs, false⟩) [1, 4] Tryz.mixed _ _ _ (by kernel_rfl) ?_
  have wb := Tryz.l1Below_ok B hB 14 (by omega) H1 cb hd.cur
  simp (disch := omega) only [Tryz.ntmps22, Tryz.results22, go_sem]
  refine wb.callX ?_
  rintro r H2 ⟨v, rfl, v0, v1, v2, hs⟩
  have hd2 := hd.trans hs.ds
  have hnb2 : H2.nb = H1.nb := hs.nb
  have hnbd := hd.nb
  have hmA2 : H2.map H.nb = some ⟨[.val (.slice none 0 0)], true⟩ := by rw [hs.map (by omega), hmA]
  have hmB2 : H2.map rb = some ⟨[.own ob 0 R.length R.length 1 false], true⟩ := by rw [hs.map (by omega), hmB]
  have hmo2 : H2.map ob = some ⟨cs, false⟩ := by rw [hs.map (by omega), hmo]
  have hmt2 : H2.map (nm 0) = some ⟨cons (rg R 0), false⟩ := by rw [hs.map (by omega), g3]
  have hRu2 := hRu.fr (H' := H2) (by omega) (fun b b1 b2 => hs.map (by omega))
  have hcT := cons_length (rg R 0)
  rcases (by omega : v = 0 ∨ v = 1 ∨ v = 2 ∨ 3 ≤ v) with rfl | rfl | rfl | h3
  · have hdp := hd2.trans (DS.push hd2.cur (by omega) ⟨ints [-1, 5, 6], false⟩)
    have wp := Tryz.l1Pick_ok B hB [-1, 5, 6] (by simp) (by simp) (H2.push ⟨ints [-1, 5, 6], false⟩) cb H2.nb false false hdp.cur (by rw [hpush_map, if_pos rfl]) (by omega)
    simp (disch := omega) only [Tryz.ntmps22, Tryz.results22, go_sem, hmB2, hmo2]
    refine ⟨.own ob 0 R.length R.length 1 false, fun Hx hx => ?_, ?_⟩
    · have hx : Hx.map rb = some ⟨[.own ob 0 R.length R.length 1 false], true⟩ ∧ Hx.map ob = some ⟨cs, false⟩ := hx
      have hx1 := hx.1
      simp (disch := omega) only [Tryz.ntmps22, Tryz.results22, go_sem, hx1]
    simp (disch := omega) only [Tryz.ntmps22, Tryz.results22, go_sem, hmB2, hmo2, hcl]
    refine ⟨.own (nm 0) 0 (rg R 0).length (rg R 0).length 3 false, fun Hx hx => ?_, ?_⟩
    · have hx : Hx.map rb = some ⟨[.own ob 0 R.length R.length 1 false], true⟩ ∧ Hx.map ob = some ⟨cs, false⟩ := hx
      have hx1 := hx.2
      simp (disch := omega) only [Tryz.ntmps22, Tryz.results22, go_sem, hx1, g1, hcl]
    simp (disch := omega) only [Tryz.ntmps22, Tryz.results22, go_sem, hmB2, hmo2, hcl, repI3', List.set_cons_zero, List.set_cons_succ, List.length_cons, List.length_nil, ints3, hset_map, hpush_map, hset_nb, hpush_nb, and_self]
    refine CallS.callN wp (PickQ.ne (by simp) hdp.cur) ?_
    rintro r H3 ⟨v, rfl, hv, hs3⟩
    have hnb3 : H3.nb = H2.nb + 1 := hs3.nb
    have hmA3 : H3.map H.nb = some ⟨[.val (.slice none 0 0)], true⟩ := by rw [hs3.map (by omega), hpush_map, if_neg (by omega), hmA2]
    have hmB3 : H3.map rb = some ⟨[.own ob 0 R.length R.length 1 false], true⟩ := by rw [hs3.map (by omega), hpush_map, if_neg (by omega), hmB2]
    have hmo3 : H3.map ob = some ⟨cs, false⟩ := by rw [hs3.map (by omega), hpush_map, if_neg (by omega), hmo2]
    have hmt3 : H3.map (nm 0) = some ⟨cons (rg R 0), false⟩ := by rw [hs3.map (by omega), hpush_map, if_neg (by omega), hmt2]
    have hRu3 := hRu2.fr (H' := H3) (by omega) (fun b b1 b2 => by rw [hs3.map (by omega), hpush_map, if_neg (by omega)])
    have hd3 := hdp.trans hs3.ds
    have hst := cons_set0 hT0 v
    have hTl : (((v, (cg (rg R 0) 0).2.1, (cg (rg R 0) 0).2.2) : Con) :: (rg R 0).tail).length = (rg R 0).length := by rw [List.length_cons, List.length_tail]; omega
    have hRu4 := hRu3.set (i := 0) (by omega) (((v, (cg (rg R 0) 0).2.1, (cg (rg R 0) 0).2.2) : Con) :: (rg R 0).tail) hTl hT0
    have hd4 := (hd3.setF (nm 0) (by omega) (by omega) (some ⟨cons (((v, (cg (rg R 0) 0).2.1, (cg (rg R 0) 0).2.2) : Con) :: (rg R 0).tail), false⟩)).setF H.nb (by omega) (by omega) (some ⟨[.own ob 0 R.length R.length 1 false], true⟩)
    simp (disch := omega) only [Tryz.ntmps22, Tryz.results22, go_sem, hmB3, hmo3, hmt3, hmA3, hcT, hst, hset_map, hpush_map, hset_nb, hpush_nb, and_self]
    have hRl : (R.set 0 (((v, (cg (rg R 0) 0).2.1, (cg (rg R 0) 0).2.2) : Con) :: (rg R 0).tail)).length = R.length := List.length_set
    refine ⟨R.set 0 (((v, (cg (rg R 0) 0).2.1, (cg (rg R 0) 0).2.2) : Con) :: (rg R 0).tail), ob, cs, nm, by rw [hRl, nlG_f (by omega)], (hRu4.fr (by rw [hset_nb]; exact Nat.le_refl _) fun b b1 b2 => by rw [hset_map, if_neg (by omega)]).low (by omega), hd4, by omega, fun i hi => ?_⟩
    by_cases hi0 : i = 0
    · subst hi0
      have : rg (R.set 0 (((v, (cg (rg R 0) 0).2.1, (cg (rg R 0) 0).2.2) : Con) :: (rg R 0).tail)) 0 = ((v, (cg (rg R 0) 0).2.1, (cg (rg R 0) 0).2.2) : Con) :: (rg R 0).tail := by simp [rg, show 0 < R.length by omega]
      rw [this, hTl]; omega
    · have : rg (R.set 0 (((v, (cg (rg R 0) 0).2.1, (cg (rg R 0) 0).2.2) : Con) :: (rg R 0).tail)) i = rg R i := by simp [rg, List.getElem?_set, Ne.symm hi0]
      rw [this]
      have := hok i (by omega)
      omega
  · have hdp := hd2.trans (DS.push hd2.cur (by omega) ⟨ints [0, 1, 1001], false⟩)
    have wp := Tryz.l1Pick_ok B hB [0, 1, 1001] (by simp) (by simp) (H2.push ⟨ints [0, 1, 1001], false⟩) cb H2.nb false false hdp.cur (by rw [hpush_map, if_pos rfl]) (by omega)
    simp (disch := omega) only [Tryz.ntmps22, Tryz.results22, go_sem, hmB2, hmo2]
    refine ⟨.own ob 0 R.length R.length 1 false, fun Hx hx => ?_, ?_⟩
    · have hx : Hx.map rb = some ⟨[.own ob 0 R.length R.length 1 false], true⟩ ∧ Hx.map ob = some ⟨cs, false⟩ := hx
      have hx1 := hx.1
      simp (disch := omega) only [Tryz.ntmps22, Tryz.results22, go_sem, hx1]
    simp (disch := omega) only [Tryz.ntmps22, Tryz.results22, go_sem, hmB2, hmo2, hcl]
    refine ⟨.own (nm 0) 0 (rg R 0).length (rg R 0).length 3 false, fun Hx hx => ?_, ?_⟩
    · have hx : Hx.map rb = some ⟨[.own ob 0 R.length R.length 1 false], true⟩ ∧ Hx.map ob = some ⟨cs, false⟩ := hx
      have hx1 := hx.2
      simp (disch := omega) only [Tryz.ntmps22, Tryz.results22, go_sem, hx1, g1, hcl]
    simp (disch := omega) only [Tryz.ntmps22, Tryz.results22, go_sem, hmB2, hmo2, hcl, repI3', List.set_cons_zero, List.set_cons_succ, List.length_cons, List.length_nil, ints3, hset_map, hpush_map, hset_nb, hpush_nb, and_self]
    refine CallS.callN wp (PickQ.ne (by simp) hdp.cur) ?_
    rintro r H3 ⟨v, rfl, hv, hs3⟩
    have hnb3 : H3.nb = H2.nb + 1 := hs3.nb
    have hmA3 : H3.map H.nb = some ⟨[.val (.slice none 0 0)], true⟩ := by rw [hs3.map (by omega), hpush_map, if_neg (by omega), hmA2]
    have hmB3 : H3.map rb = some ⟨[.own ob 0 R.length R.length 1 false], true⟩ := by rw [hs3.map (by omega), hpush_map, if_neg (by omega), hmB2]
    have hmo3 : H3.map ob = some ⟨cs, false⟩ := by rw [hs3.map (by omega), hpush_map, if_neg (by omega), hmo2]
    have hmt3 : H3.map (nm 0) = some ⟨cons (rg R 0), false⟩ := by rw [hs3.map (by omega), hpush_map, if_neg (by omega), hmt2]
    have hRu3 := hRu2.fr (H' := H3) (by omega) (fun b b1 b2 => by rw [hs3.map (by omega), hpush_map, if_neg (by omega)])
    have hd3 := hdp.trans hs3.ds
    have hst := cons_set1 hT0 v
    have hTl : ((((cg (rg R 0) 0).1, v, (cg (rg R 0) 0).2.2) : Con) :: (rg R 0).tail).length = (rg R 0).length := by rw [List.length_cons, List.length_tail]; omega
    have hRu4 := hRu3.set (i := 0) (by omega) ((((cg (rg R 0) 0).1, v, (cg (rg R 0) 0).2.2) : Con) :: (rg R 0).tail) hTl hT0
    have hd4 := (hd3.setF (nm 0) (by omega) (by omega) (some ⟨cons ((((cg (rg R 0) 0).1, v, (cg (rg R 0) 0).2.2) : Con) :: (rg R 0).tail), false⟩)).setF H.nb (by omega) (by omega) (some ⟨[.own ob 0 R.length R.length 1 false], true⟩)
    simp (disch := omega) only [Tryz.ntmps22, Tryz.results22, go_sem, hmB3, hmo3, hmt3, hmA3, hcT, hst, hset_map, hpush_map, hset_nb, hpush_nb, and_self]
    have hRl : (R.set 0 ((((cg (rg R 0) 0).1, v, (cg (rg R 0) 0).2.2) : Con) :: (rg R 0).tail)).length = R.length := List.length_set
    refine ⟨R.set 0 ((((cg (rg R 0) 0).1, v, (cg (rg R 0) 0).2.2) : Con) :: (rg R 0).tail), ob, cs, nm, by rw [hRl, nlG_f (by omega)], (hRu4.fr (by rw [hset_nb]; exact Nat.le_refl _) fun b b1 b2 => by rw [hset_map, if_neg (by omega)]).low (by omega), hd4, by omega, fun i hi => ?_⟩
    by_cases hi0 : i = 0
    · subst hi0
      have : rg (R.set 0 ((((cg (rg R 0) 0).1, v, (cg (rg R 0) 0).2.2) : Con) :: (rg R 0).tail)) 0 = (((cg (rg R 0) 0).1, v, (cg (rg R 0) 0).2.2) : Con) :: (rg R 0).tail := by simp [rg, show 0 < R.length by omega]
      rw [this, hTl]; omega
    · have : rg (R.set 0 ((((cg (rg R 0) 0).1, v, (cg (rg R 0) 0).2.2) : Con) :: (rg R 0).tail)) i = rg R i := by simp [rg, List.getElem?_set, Ne.symm hi0]
      rw [this]
      have := hok i (by omega)
      omega
  · have htk : cs.take R.length = cs := List.take_of_length_le (by omega)
    have hRl : (R ++ [[]]).length = R.length + 1 := by simp
    simp (disch := omega) only [Tryz.ntmps22, Tryz.results22, go_sem, hmB2, hmo2, hmA2, hcl, htk, hset_map, hpush_map, hset_nb, hpush_nb]
    have e8 := (hd2.trans (DS.push hd2.cur (by omega) ⟨[.val (.slice none 0 0)], false⟩)).setF ob (by omega) (by omega) none
    have e9 := (e8.trans (DS.push e8.cur (by rw [hset_nb, hpush_nb]; omega) ⟨cs ++ [.val (.slice none 0 0)], false⟩)).setF rb (by omega) (by omega) (some ⟨[.own (H2.nb + 1) 0 (R.length + 1) (R.length + 1) 1 false], true⟩)
    have e10 := e9.setF H.nb (by omega) (by omega) (some ⟨[.own (H2.nb + 1) 0 (R.length + 1) (R.length + 1) 1 false], true⟩)
    have hsnoc : RuH (((H2.push ⟨[.val (.slice none 0 0)], false⟩).set ob none).push ⟨cs ++ [.val (.slice none 0 0)], false⟩) (H.nb + 1) (R ++ [[]]) (H2.nb + 1) (cs ++ [nlG 3 0 0]) (fun i => if i < R.length then nm i else 0) := by
      refine RuH.snoc (H := H2) (ob' := H2.nb + 1) (tb := 0) (T := []) hRu2 (by omega) ?_ (fun h => absurd rfl h) (fun b b1 b2 b3 => ?_) ?_ ⟨by omega, ?_⟩
      · simp (disch := omega) only [hset_map, hpush_map, hset_nb, hpush_nb, if_pos, if_neg, ↓reduceIte]
        rfl
      · have := b3 (by omega)
        simp (disch := omega) only [hset_map, hpush_map, hset_nb, hpush_nb, if_pos, if_neg, ↓reduceIte]
      · simp only [hset_nb, hpush_nb]; omega
      · simp only [hset_nb, hpush_nb]; omega
    refine ⟨R ++ [[]], H2.nb + 1, cs ++ [nlG 3 0 0], fun i => if i < R.length then nm i else 0, by rw [hRl, nlG_s], (hsnoc.frN ?_ (fun _ => ?_) fun i hi h0 => ?_).low (by omega), e10, by omega, fun i hi => ?_⟩
    · simp only [hset_nb]; exact Nat.le_refl _
    · rw [hset_map, if_neg (by omega), hset_map, if_neg (by omega)]
    · by_cases h : i < R.length
      · rw [rg_lt h] at h0
        have h1 := hrb4 i h
        have h2 := ((hRu2.row i h).2 h0).2.1
        show Heap.map _ (if i < R.length then nm i else 0) = Heap.map _ (if i < R.length then nm i else 0)
        rw [if_pos h, hset_map, if_neg (by omega), hset_map, if_neg h1]
      · exfalso
        have : i = R.length := by omega
        subst this
        rw [rg_at] at h0
        exact h0 rfl
    · by_cases h : i < R.length
      · rw [rg_lt h]; have := hok i h; omega
      · have : i = R.length := by omega
        subst this; rw [rg_at]; simp
  · simp (disch := omega) only [Tryz.ntmps22, Tryz.results22, go_sem, hmB2, hmA2, hset_map, hpush_map, hset_nb, hpush_nb]
    have hd4 := hd2.setF H.nb (by omega) (by omega) (some ⟨[.own ob 0 R.length R.length 1 false], true⟩)
    exact ⟨R, ob, cs, nm, by rw [nlG_f (by omega)], (hRu2.fr (by rw [hset_nb]; exact Nat.le_refl _) fun b b1 b2 => by rw [hset_map, if_neg (by omega)]).low (by omega), hd4, by omega, fun i hi => by have := hok i hi; omega⟩
end Go.Sh

/-
  Drawing scorings and feature vectors.
-/
namespace Go.Sh
set_option linter.unusedSimpArgs false
set_option linter.unusedVariables false
open Go Go.Proofs

def ScQ (B : List Int) (cb : Nat) (H : Heap) (r : SV) (H' : Heap) : Prop := ∃ W b lb, r = .agg [.own lb 0 6 6 1 false, .val (.int .i64 b)] ∧ H'.map lb = some ⟨ints W, false⟩ ∧ H.nb ≤ lb ∧ lb < H'.nb ∧ W.length = 6 ∧ DS B cb H H'
theorem ints5 (a b c d e : Int) : [SV.val (.int .i64 a), .val (.int .i64 b), .val (.int .i64 c), .val (.int .i64 d), .val (.int .i64 e)] = ints [a, b, c, d, e] := rfl
theorem repI5' : List.replicate 5 (SV.val (.int .i64 0)) = [SV.val (.int .i64 0), SV.val (.int .i64 0), SV.val (.int .i64 0), SV.val (.int .i64 0), SV.val (.int .i64 0)] := rfl
theorem ints_snoc1 (L : List Int) (v : Int) : ints L ++ [.val (.int .i64 v)] = ints (L ++ [v]) := by simp [ints]
theorem ints_set1 (L : List Int) (k : Nat) (v : Int) : (ints L).set k (.val (.int .i64 v)) = ints (L.set k v) := by simp [ints]
set_option maxRecDepth 20000 in
set_option maxHeartbeats 16000000 in
theorem Tryz.l16Scoring_ok (B : List Int) (hB : B.length ≤ 1048576) (H : Heap) (cb : Nat) (hc : Cur B H cb) (hcb : cb < H.nb) : CallS Tryz.prog 44 [.optr cb 0] H (ScQ B cb H) := by
  have e1 := DS.push hc hcb ⟨[.val (.slice none 0 0), .val (.int .i64 0)], true⟩
  have e2 := e1.trans (DS.push e1.cur (by rw [hpush_nb]; omega) ⟨ints [500, 600, 700, 0, 1000], false⟩)
  have w1 := Tryz.l1Pick_ok B hB [500, 600, 700, 0, 1000] (by simp) (by simp) ((H.push ⟨[.val (.slice none 0 0), .val (.int .i64 0)], true⟩).push ⟨ints [500, 600, 700, 0, 1000], false⟩) cb (H.nb + 1) false false e2.cur (by rw [hpush_map, if_pos (by rw [hpush_nb])]) (by omega)
  refine CallS.of_body Tryz.func44 rfl (by kernel_rfl) (by simp [Tryz.ntmps44]) ?_
  refine SW_of_vc5 [] [5] (fun _ => True) [1] Tryz.mixed _ _ _ (by kernel_rfl) ?_
  simp (disch := omega) only [Tryz.ntmps44, Tryz.results44, go_sem, repI5', List.set_cons_zero, List.set_cons_succ, List.length_cons, List.length_nil, ints5, hpush_nb]
  refine w1.callX ?_
  rintro r H1 ⟨b, rfl, hb, hs⟩
  have hd1 := e2.trans hs.ds
  have hnb1 : H1.nb = H.nb + 1 + 1 := hs.nb
  have hm0 : H1.map H.nb = some ⟨[.val (.slice none 0 0), .val (.int .i64 0)], true⟩ := by rw [hs.map (by omega), hpush_map, if_neg (by rw [hpush_nb]; omega), hpush_map, if_pos rfl]
  have e3 := (hd1.trans (DS.push hd1.cur (by omega) ⟨[.val (.slice none 0 0), .val (.int .i64 0)], true⟩)).setF H1.nb (by omega) (by omega) (some ⟨[.val (.slice none 0 0), .val (.int .i64 b)], true⟩)
  simp (disch := omega) only [Tryz.ntmps44, Tryz.results44, go_sem, hset_map, hpush_map, hset_nb, hpush_nb]
  refine LoopW.loop (fun y : Nat × List Int × Nat × Heap => ⟨ofL [(0, .optr cb 0), (2, .optr H.nb 0), (3, .optr H1.nb 0), (4, .val (.int .i64 y.1))], y.2.2.2⟩)
    (fun y => y.1 ≤ 6 ∧ y.2.1.length = y.1 ∧ y.2.2.2.map H1.nb = some ⟨[nlG 1 y.2.2.1 y.1, .val (.int .i64 b)], true⟩ ∧ (y.1 ≠ 0 → H1.nb < y.2.2.1 ∧ y.2.2.1 < y.2.2.2.nb ∧ y.2.2.2.map y.2.2.1 = some ⟨ints y.2.1, false⟩) ∧ DS B cb H y.2.2.2 ∧ H1.nb < y.2.2.2.nb ∧ y.2.2.2.map H.nb = some ⟨[.val (.slice none 0 0), .val (.int .i64 0)], true⟩) (fun y => 6 - y.1)
    (0, [], 0, (H1.push ⟨[.val (.slice none 0 0), .val (.int .i64 0)], true⟩).set H1.nb (some ⟨[.val (.slice none 0 0), .val (.int .i64 b)], true⟩)) ⟨by simp, rfl, by show ((H1.push _).set _ _).map H1.nb = _; rw [hset_map, if_pos rfl]; rfl, fun h => absurd rfl h, e3, by show H1.nb < ((H1.push _).set _ _).nb; rw [hset_nb, hpush_nb]; omega, by show ((H1.push _).set _ _).map H.nb = _; rw [hset_map, if_neg (by omega), hpush_map, if_neg (by omega), hm0]⟩ (Wk.of (by simp only [go_sem, ↓List.forall_mem_cons, List.not_mem_nil, false_implies, implies_true, and_true, true_and, and_self, ri_eq, Int.natCast_add, Int.cast_ofNat_Int]; try simp) rfl) ?_
  clear e1 e2 w1 e3
  rintro ⟨k, L, lb, H2⟩ ⟨hk, hL, hmr, hml, hd2, hnb2, hmA⟩
  simp only at hk hL hmr hml hd2 hnb2 hmA
  by_cases hlt : k < 6
  · refine SW_of_vc5 [] [5] (fun Hx => Hx.map H1.nb = some ⟨[nlG 1 lb k, .val (.int .i64 b)], true⟩) [1] Tryz.mixed _ _ _ (by kernel_rfl) ?_
    have e4 := hd2.trans (DS.push hd2.cur (by omega) ⟨ints [0, 1, 2, 3, 5], false⟩)
    have wp := Tryz.l1Pick_ok B hB [0, 1, 2, 3, 5] (by simp) (by simp) (H2.push ⟨ints [0, 1, 2, 3, 5], false⟩) cb H2.nb false false e4.cur (by rw [hpush_map, if_pos rfl]) (by omega)
    by_cases hz : k = 0
    · have e0 := nlG_t (z := 1) (b := lb) hz
      have hL0 : L = [] := List.length_eq_zero_iff.1 (by omega)
      rw [e0] at hmr
      simp (disch := omega) only [Tryz.ntmps44, Tryz.results44, go_sem, hmr, e0]
      refine ⟨.val (.slice none 0 0), fun Hx hx => ?_, ?_⟩
      · have hx : Hx.map H1.nb = some ⟨[.val (.slice none 0 0), .val (.int .i64 b)], true⟩ := hx
        simp (disch := omega) only [Tryz.ntmps44, Tryz.results44, go_sem, hx]
      simp (disch := omega) only [Tryz.ntmps44, Tryz.results44, go_sem, hmr, e0, repI5', List.set_cons_zero, List.set_cons_succ, List.length_cons, List.length_nil, ints5, hset_map, hpush_map, hset_nb, hpush_nb]
      refine CallS.callN wp (PickQ.ne (by simp) e4.cur) ?_
      rintro r H3 ⟨v, rfl, hv, hs3⟩
      have hnb3 : H3.nb = H2.nb + 1 := hs3.nb
      have hm3 : H3.map H1.nb = some ⟨[.val (.slice none 0 0), .val (.int .i64 b)], true⟩ := by rw [hs3.map (by omega), hpush_map, if_neg (by omega), hmr]
      have hmA3 : H3.map H.nb = some ⟨[.val (.slice none 0 0), .val (.int .i64 0)], true⟩ := by rw [hs3.map (by omega), hpush_map, if_neg (by omega), hmA]
      have hd3 := e4.trans hs3.ds
      simp (disch := omega) only [Tryz.ntmps44, Tryz.results44, go_sem, hm3, e0, hset_map, hpush_map, hset_nb, hpush_nb]
      have e5 := hd3.trans (DS.push hd3.cur (by have := hd3.nb; omega) ⟨[.val (.int .i64 v)], false⟩)
      have e6 := (e5.trans (DS.push e5.cur (by have := hd3.nb; rw [hpush_nb]; omega) ⟨[.val (.int .i64 v)], false⟩)).setF H1.nb (by omega) (by omega) (some ⟨[.own (H3.nb + 1) 0 1 1 1 false, .val (.int .i64 b)], true⟩)
      refine ⟨(k + 1, [v], H3.nb + 1, _), ⟨hlt, by show 1 = k + 1; omega, ?_, fun _ => ⟨?_, ?_, ?_⟩, e6, ?_, ?_⟩, by show 6 - (k + 1) < 6 - k; omega, Wk.of (by simp only [go_sem, ↓List.forall_mem_cons, List.not_mem_nil, false_implies, implies_true, and_true, true_and, and_self, ri_eq, Int.natCast_add, Int.cast_ofNat_Int]; try simp) rfl⟩
      · show Heap.map _ H1.nb = some ⟨[nlG 1 (H3.nb + 1) (k + 1), .val (.int .i64 b)], true⟩
        rw [hz, nlG_s]
        simp (disch := omega) only [hset_map, hpush_map, hset_nb, hpush_nb, if_pos, if_neg, ↓reduceIte]
      · show H1.nb < H3.nb + 1; omega
      · simp only [hset_nb, hpush_nb]; omega
      · show Heap.map _ (H3.nb + 1) = some ⟨[.val (.int .i64 v)], false⟩
        simp (disch := omega) only [hset_map, hpush_map, hset_nb, hpush_nb, if_pos, if_neg, ↓reduceIte]
      · simp only [hset_nb, hpush_nb]; omega
      · simp only
        simp (disch := omega) only [hset_map, hpush_map, hset_nb, hpush_nb, if_pos, if_neg, ↓reduceIte]
        exact hmA3
    · have e0 := nlG_f (z := 1) (b := lb) hz
      obtain ⟨m1, m2, m3⟩ := hml hz
      rw [e0] at hmr
      simp (disch := omega) only [Tryz.ntmps44, Tryz.results44, go_sem, hmr, e0]
      refine ⟨.own lb 0 k k 1 false, fun Hx hx => ?_, ?_⟩
      · have hx : Hx.map H1.nb = some ⟨[.own lb 0 k k 1 false, .val (.int .i64 b)], true⟩ := hx
        simp (disch := omega) only [Tryz.ntmps44, Tryz.results44, go_sem, hx]
      simp (disch := omega) only [Tryz.ntmps44, Tryz.results44, go_sem, hmr, e0, repI5', List.set_cons_zero, List.set_cons_succ, List.length_cons, List.length_nil, ints5, hset_map, hpush_map, hset_nb, hpush_nb]
      refine CallS.callN wp (PickQ.ne (by simp) e4.cur) ?_
      rintro r H3 ⟨v, rfl, hv, hs3⟩
      have hnb3 : H3.nb = H2.nb + 1 := hs3.nb
      have hnbd := hd2.nb
      have hm3 : H3.map H1.nb = some ⟨[.own lb 0 k k 1 false, .val (.int .i64 b)], true⟩ := by rw [hs3.map (by omega), hpush_map, if_neg (by omega), hmr]
      have hml3 : H3.map lb = some ⟨ints L, false⟩ := by rw [hs3.map (by omega), hpush_map, if_neg (by omega), m3]
      have hmA3 : H3.map H.nb = some ⟨[.val (.slice none 0 0), .val (.int .i64 0)], true⟩ := by rw [hs3.map (by omega), hpush_map, if_neg (by omega), hmA]
      have hd3 := e4.trans hs3.ds
      have hil : (ints L).length = k := by rw [ints_length, hL]
      have htk : (ints L).take k = ints L := List.take_of_length_le (by omega)
      have hsn := ints_snoc1 L v
      simp (disch := omega) only [Tryz.ntmps44, Tryz.results44, go_sem, hm3, hml3, hil, htk, hsn, e0, hset_map, hpush_map, hset_nb, hpush_nb]
      have e5 := (hd3.trans (DS.push hd3.cur (by omega) ⟨[.val (.int .i64 v)], false⟩)).setF lb (by omega) (by omega) none
      have e6 := (e5.trans (DS.push e5.cur (by rw [hset_nb, hpush_nb]; omega) ⟨ints (L ++ [v]), false⟩)).setF H1.nb (by omega) (by omega) (some ⟨[.own (H3.nb + 1) 0 (k + 1) (k + 1) 1 false, .val (.int .i64 b)], true⟩)
      refine ⟨(k + 1, L ++ [v], H3.nb + 1, _), ⟨hlt, by show (L ++ [v]).length = k + 1; simp [hL], ?_, fun _ => ⟨?_, ?_, ?_⟩, e6, ?_, ?_⟩, by show 6 - (k + 1) < 6 - k; omega, Wk.of (by simp only [go_sem, ↓List.forall_mem_cons, List.not_mem_nil, false_implies, implies_true, and_true, true_and, and_self, ri_eq, Int.natCast_add, Int.cast_ofNat_Int]; try simp) rfl⟩
      · show Heap.map _ H1.nb = some ⟨[nlG 1 (H3.nb + 1) (k + 1), .val (.int .i64 b)], true⟩
        rw [nlG_s]
        simp (disch := omega) only [hset_map, hpush_map, hset_nb, hpush_nb, if_pos, if_neg, ↓reduceIte]
      · show H1.nb < H3.nb + 1; omega
      · simp only [hset_nb, hpush_nb]; omega
      · show Heap.map _ (H3.nb + 1) = some ⟨ints (L ++ [v]), false⟩
        simp (disch := omega) only [hset_map, hpush_map, hset_nb, hpush_nb, if_pos, if_neg, ↓reduceIte]
      · simp only [hset_nb, hpush_nb]; omega
      · simp only
        simp (disch := omega) only [hset_map, hpush_map, hset_nb, hpush_nb, if_pos, if_neg, ↓reduceIte]
        exact hmA3
  · obtain rfl : k = 6 := by omega
    have e0 := nlG_f (z := 1) (b := lb) (n := 6) (by omega)
    obtain ⟨m1, m2, m3⟩ := hml (by omega)
    rw [e0] at hmr
    have hnbd := hd2.nb
    have hil : (ints L).length = 6 := by rw [ints_length, hL]
    have hst := ints_set1 L 0 2
    refine SW_of_vc5 [] [5] (fun _ => True) [1] Tryz.mixed _ _ _ (by kernel_rfl) ?_
    simp (disch := omega) only [Tryz.ntmps44, Tryz.results44, go_sem, hmr, m3, hil, hst, hmA, hset_map, hpush_map, hset_nb, hpush_nb]
    have e6 := (hd2.setF lb (by omega) (by omega) (some ⟨ints (L.set 0 2), false⟩)).setF H.nb (by omega) (by omega) (some ⟨[.own lb 0 6 6 1 false, .val (.int .i64 b)], true⟩)
    refine ⟨L.set 0 2, b, lb, rfl, ?_, by omega, ?_, by simp [hL], e6⟩
    · simp (disch := omega) only [hset_map, hpush_map, hset_nb, hpush_nb, if_pos, if_neg, ↓reduceIte]
    · simp only [hset_nb, hpush_nb]; omega
set_option maxRecDepth 20000 in
set_option maxHeartbeats 16000000 in
theorem Tryz.l16Any_ok (B : List Int) (hB : B.length ≤ 1048576) (H : Heap) (cb : Nat) (hc : Cur B H cb) (hcb : cb < H.nb) : CallS Tryz.prog 23 [.optr cb 0] H (ScQ B cb H) := by
  have e1 := DS.push hc hcb ⟨[.val (.slice none 0 0), .val (.int .i64 0)], true⟩
  have w1 := Tryz.l16Scoring_ok B hB (H.push ⟨[.val (.slice none 0 0), .val (.int .i64 0)], true⟩) cb e1.cur (by rw [hpush_nb]; omega)
  refine CallS.of_body Tryz.func23 rfl (by kernel_rfl) (by simp [Tryz.ntmps23]) ?_
  refine SW.seqW ⟨ofL [(0, .optr cb 0), (2, .optr H.nb 0)], H.push ⟨[.val (.slice none 0 0), .val (.int .i64 0)], true⟩⟩ ?_ ?_
  · refine SW_of_vc Tryz.mixed _ _ _ (by kernel_rfl) ?_
    simp (disch := omega) only [Tryz.ntmps23, Tryz.results23, go_sem]
    exact Wk.of (by simp only [go_sem, ↓List.forall_mem_cons, List.not_mem_nil, false_implies, implies_true, and_true, true_and, and_self, ri_eq, Int.natCast_add, Int.cast_ofNat_Int]; try simp) rfl
  refine SW.seqI (fun y : Nat × List Int × Int × Nat × Heap => ⟨ofL [(0, .optr cb 0), (2, .optr H.nb 0), (3, .optr y.1 0)], y.2.2.2.2⟩)
    (fun y => y.2.1.length = 6 ∧ DS B cb H y.2.2.2.2 ∧ y.2.2.2.2.map H.nb = some ⟨[.val (.slice none 0 0), .val (.int .i64 0)], true⟩ ∧ y.2.2.2.2.map y.1 = some ⟨[.own y.2.2.2.1 0 6 6 1 false, .val (.int .i64 y.2.2.1)], true⟩ ∧ y.2.2.2.2.map y.2.2.2.1 = some ⟨ints y.2.1, false⟩ ∧ H.nb < y.1 ∧ y.1 < y.2.2.2.2.nb ∧ H.nb < y.2.2.2.1 ∧ y.2.2.2.1 < y.2.2.2.2.nb ∧ y.1 ≠ y.2.2.2.1) ?_ ?_
  · refine SW_of_vc Tryz.mixed _ _ _ (by kernel_rfl) ?_
    simp (disch := omega) only [Tryz.ntmps23, Tryz.results23, go_sem]
    refine w1.callX ?_
    rintro r H1 ⟨W, b, lb, rfl, hml, hl1, hl2, hW, hd⟩
    have hd1 := e1.trans hd
    have hnb := hd.nb
    rw [hpush_nb] at hnb hl1
    have hm0 : H1.map H.nb = some ⟨[.val (.slice none 0 0), .val (.int .i64 0)], true⟩ := by rw [hd.fr _ (by rw [hpush_nb]; omega) (by omega), hpush_map, if_pos rfl]
    simp (disch := omega) only [Tryz.ntmps23, Tryz.results23, go_sem, hset_map, hpush_map, hset_nb, hpush_nb]
    have e2 := (hd1.trans (DS.push hd1.cur (by omega) ⟨[.val (.slice none 0 0), .val (.int .i64 0)], true⟩)).setF H1.nb (by omega) (by omega) (some ⟨[.own lb 0 6 6 1 false, .val (.int .i64 b)], true⟩)
    refine ⟨(H1.nb, W, b, lb, _), ⟨hW, e2, ?_, ?_, ?_, by show H.nb < H1.nb; omega, ?_, by show H.nb < lb; omega, ?_, by show H1.nb ≠ lb; omega⟩, Wk.of (by simp only [go_sem, ↓List.forall_mem_cons, List.not_mem_nil, false_implies, implies_true, and_true, true_and, and_self, ri_eq, Int.natCast_add, Int.cast_ofNat_Int]; try simp) rfl⟩
    · simp only
      simp (disch := omega) only [hset_map, hpush_map, hset_nb, hpush_nb, if_pos, if_neg, ↓reduceIte]
      exact hm0
    · simp only
      simp (disch := omega) only [hset_map, hpush_map, hset_nb, hpush_nb, if_pos, if_neg, ↓reduceIte]
    · simp only
      simp (disch := omega) only [hset_map, hpush_map, hset_nb, hpush_nb, if_pos, if_neg, ↓reduceIte]
      exact hml
    · simp only [hset_nb, hpush_nb]; omega
    · simp only [hset_nb, hpush_nb]; omega
  rintro ⟨rb, W, b, lb, H1⟩ ⟨hW, hd, hmA, hmB, hml, hr1, hr2, hl1, hl2, hne⟩
  simp only at hW hd hmA hmB hml hr1 hr2 hl1 hl2 hne
  refine SW_of_vc5 [] [6] (fun Hx => Hx.map rb = some ⟨[.own lb 0 6 6 1 false, .val (.int .i64 b)], true⟩) [1] Tryz.mixed _ _ _ (by kernel_rfl) ?_
  have wb := Tryz.l1Below_ok B hB 14 (by omega) H1 cb hd.cur
  simp (disch := omega) only [Tryz.ntmps23, Tryz.results23, go_sem]
  refine wb.callX ?_
  rintro r H2 ⟨v, rfl, v0, v1, v2, hs⟩
  have hd2 := hd.trans hs.ds
  have hnb2 : H2.nb = H1.nb := hs.nb
  have hnbd := hd.nb
  have hmA2 : H2.map H.nb = some ⟨[.val (.slice none 0 0), .val (.int .i64 0)], true⟩ := by rw [hs.map (by omega), hmA]
  have hmB2 : H2.map rb = some ⟨[.own lb 0 6 6 1 false, .val (.int .i64 b)], true⟩ := by rw [hs.map (by omega), hmB]
  have hml2 : H2.map lb = some ⟨ints W, false⟩ := by rw [hs.map (by omega), hml]
  have hil : (ints W).length = 6 := by rw [ints_length, hW]
  rcases (by omega : v = 0 ∨ v = 1 ∨ v = 2 ∨ 3 ≤ v) with rfl | rfl | rfl | h3
  · have hdp := hd2.trans (DS.push hd2.cur (by omega) ⟨ints [-1, 1001], false⟩)
    have wp := Tryz.l1Pick_ok B hB [-1, 1001] (by simp) (by simp) (H2.push ⟨ints [-1, 1001], false⟩) cb H2.nb false false hdp.cur (by rw [hpush_map, if_pos rfl]) (by omega)
    have i2 : ∀ a b : Int, [SV.val (.int .i64 a), .val (.int .i64 b)] = ints [a, b] := fun _ _ => rfl
    have r2 : List.replicate 2 (SV.val (.int .i64 0)) = [SV.val (.int .i64 0), SV.val (.int .i64 0)] := rfl
    simp (disch := omega) only [Tryz.ntmps23, Tryz.results23, go_sem, r2, List.set_cons_zero, List.set_cons_succ, List.length_cons, List.length_nil, i2, hset_map, hpush_map, hset_nb, hpush_nb]
    refine wp.callX ?_
    rintro r H3 ⟨q, rfl, hq, hs3⟩
    have hnb3 : H3.nb = H2.nb + 1 := hs3.nb
    have hmA3 : H3.map H.nb = some ⟨[.val (.slice none 0 0), .val (.int .i64 0)], true⟩ := by rw [hs3.map (by omega), hpush_map, if_neg (by omega), hmA2]
    have hmB3 : H3.map rb = some ⟨[.own lb 0 6 6 1 false, .val (.int .i64 b)], true⟩ := by rw [hs3.map (by omega), hpush_map, if_neg (by omega), hmB2]
    have hml3 : H3.map lb = some ⟨ints W, false⟩ := by rw [hs3.map (by omega), hpush_map, if_neg (by omega), hml2]
    have hd3 := hdp.trans hs3.ds
    simp (disch := omega) only [Tryz.ntmps23, Tryz.results23, go_sem, hmB3, hmA3, List.set_cons_zero, List.set_cons_succ, hset_map, hpush_map, hset_nb, hpush_nb]
    have e6 := (hd3.setF rb (by omega) (by omega) (some ⟨[.own lb 0 6 6 1 false, .val (.int .i64 q)], true⟩)).setF H.nb (by omega) (by omega) (some ⟨[.own lb 0 6 6 1 false, .val (.int .i64 q)], true⟩)
    refine ⟨W, q, lb, rfl, ?_, by omega, ?_, hW, e6⟩
    · simp (disch := omega) only [hset_map, hpush_map, hset_nb, hpush_nb, if_pos, if_neg, ↓reduceIte]
      exact hml3
    · simp only [hset_nb, hpush_nb]; omega
  · have hdp := hd2.trans (DS.push hd2.cur (by omega) ⟨ints [-1, 10, 9], false⟩)
    have wp := Tryz.l1Pick_ok B hB [-1, 10, 9] (by simp) (by simp) (H2.push ⟨ints [-1, 10, 9], false⟩) cb H2.nb false false hdp.cur (by rw [hpush_map, if_pos rfl]) (by omega)
    simp (disch := omega) only [Tryz.ntmps23, Tryz.results23, go_sem, hmB2]
    refine ⟨.own lb 0 6 6 1 false, fun Hx hx => ?_, ?_⟩
    · have hx : Hx.map rb = some ⟨[.own lb 0 6 6 1 false, .val (.int .i64 b)], true⟩ := hx
      simp (disch := omega) only [Tryz.ntmps23, Tryz.results23, go_sem, hx]
    simp (disch := omega) only [Tryz.ntmps23, Tryz.results23, go_sem, hmB2, repI3', List.set_cons_zero, List.set_cons_succ, List.length_cons, List.length_nil, ints3, hset_map, hpush_map, hset_nb, hpush_nb]
    refine CallS.callN wp (PickQ.ne (by simp) hdp.cur) ?_
    rintro r H3 ⟨q, rfl, hq, hs3⟩
    have hnb3 : H3.nb = H2.nb + 1 := hs3.nb
    have hmA3 : H3.map H.nb = some ⟨[.val (.slice none 0 0), .val (.int .i64 0)], true⟩ := by rw [hs3.map (by omega), hpush_map, if_neg (by omega), hmA2]
    have hmB3 : H3.map rb = some ⟨[.own lb 0 6 6 1 false, .val (.int .i64 b)], true⟩ := by rw [hs3.map (by omega), hpush_map, if_neg (by omega), hmB2]
    have hml3 : H3.map lb = some ⟨ints W, false⟩ := by rw [hs3.map (by omega), hpush_map, if_neg (by omega), hml2]
    have hd3 := hdp.trans hs3.ds
    have hst := ints_set1 W 1 q
    simp (disch := omega) only [Tryz.ntmps23, Tryz.results23, go_sem, hmB3, hmA3, hml3, hil, hst, hset_map, hpush_map, hset_nb, hpush_nb]
    have e6 := (hd3.setF lb (by omega) (by omega) (some ⟨ints (W.set 1 q), false⟩)).setF H.nb (by omega) (by omega) (some ⟨[.own lb 0 6 6 1 false, .val (.int .i64 b)], true⟩)
    refine ⟨W.set 1 q, b, lb, rfl, ?_, by omega, ?_, by simp [hW], e6⟩
    · simp (disch := omega) only [hset_map, hpush_map, hset_nb, hpush_nb, if_pos, if_neg, ↓reduceIte]
    · simp only [hset_nb, hpush_nb]; omega
  · have r6 : List.replicate 6 (SV.val (.int .i64 0)) = ints [0, 0, 0, 0, 0, 0] := rfl
    have s6 : ∀ k, (ints [0, 0, 0, 0, 0, 0]).set k (.val (.int .i64 0)) = ints [0, 0, 0, 0, 0, 0] := fun k => by
      rw [ints_set1]; congr 1
      rcases k with _ | _ | _ | _ | _ | _ | k <;> rfl
    have l6 : (ints [0, 0, 0, 0, 0, 0]).length = 6 := rfl
    simp (disch := omega) only [Tryz.ntmps23, Tryz.results23, go_sem, hmB2, hmA2, r6, s6, l6, List.set_cons_zero, List.set_cons_succ, hset_map, hpush_map, hset_nb, hpush_nb]
    have e6 := ((hd2.trans (DS.push hd2.cur (by omega) ⟨ints [0, 0, 0, 0, 0, 0], false⟩)).setF rb (by omega) (by omega) (some ⟨[.own H2.nb 0 6 6 1 false, .val (.int .i64 b)], true⟩)).setF H.nb (by omega) (by omega) (some ⟨[.own H2.nb 0 6 6 1 false, .val (.int .i64 b)], true⟩)
    refine ⟨[0, 0, 0, 0, 0, 0], b, H2.nb, rfl, ?_, by omega, ?_, rfl, e6⟩
    · simp (disch := omega) only [hset_map, hpush_map, hset_nb, hpush_nb, if_pos, if_neg, ↓reduceIte]
      rfl
    · simp only [hset_nb, hpush_nb]; omega
  · simp (disch := omega) only [Tryz.ntmps23, Tryz.results23, go_sem, hmB2, hmA2, hset_map, hpush_map, hset_nb, hpush_nb]
    have e6 := hd2.setF H.nb (by omega) (by omega) (some ⟨[.own lb 0 6 6 1 false, .val (.int .i64 b)], true⟩)
    refine ⟨W, b, lb, rfl, ?_, by omega, ?_, hW, e6⟩
    · simp (disch := omega) only [hset_map, hpush_map, hset_nb, hpush_nb, if_pos, if_neg, ↓reduceIte]
      exact hml2
    · simp only [hset_nb, hpush_nb]; omega
end Go.Sh

/-
  Drawing feature vectors; the pair of things that FnRuleFormat draws.
-/
namespace Go.Sh
set_option linter.unusedSimpArgs false
set_option linter.unusedVariables false
open Go Go.Proofs

def VcQ (B : List Int) (cb : Nat) (H : Heap) (r : SV) (H' : Heap) : Prop := ∃ F lb, r = .own lb 0 6 6 1 false ∧ H'.map lb = some ⟨ints F, false⟩ ∧ H.nb ≤ lb ∧ lb < H'.nb ∧ F.length = 6 ∧ DS B cb H H'
def FvQ (B : List Int) (cb : Nat) (H : Heap) (r : SV) (H' : Heap) : Prop := ∃ F G lb o n, r = .own lb o n n 1 false ∧ H'.map lb = some ⟨ints G, false⟩ ∧ (G.drop o).take n = F ∧ o + n ≤ G.length ∧ H.nb ≤ lb ∧ lb < H'.nb ∧ F.length ≤ 6 ∧ DS B cb H H'
theorem ints7 (a b c d e f g : Int) : [SV.val (.int .i64 a), .val (.int .i64 b), .val (.int .i64 c), .val (.int .i64 d), .val (.int .i64 e), .val (.int .i64 f), .val (.int .i64 g)] = ints [a, b, c, d, e, f, g] := rfl
theorem repI7' : List.replicate 7 (SV.val (.int .i64 0)) = [SV.val (.int .i64 0), SV.val (.int .i64 0), SV.val (.int .i64 0), SV.val (.int .i64 0), SV.val (.int .i64 0), SV.val (.int .i64 0), SV.val (.int .i64 0)] := rfl
set_option maxRecDepth 20000 in
set_option maxHeartbeats 16000000 in
theorem Tryz.l9Vector_ok (B : List Int) (hB : B.length ≤ 1048576) (H : Heap) (cb : Nat) (hc : Cur B H cb) (hcb : cb < H.nb) : CallS Tryz.prog 45 [.optr cb 0] H (VcQ B cb H) := by
  have e1 := DS.push hc hcb ⟨[], false⟩
  refine CallS.of_body Tryz.func45 rfl (by kernel_rfl) (by simp [Tryz.ntmps45]) ?_
  refine SW_of_vc Tryz.mixed _ _ _ (by kernel_rfl) ?_
  simp (disch := omega) only [Tryz.ntmps45, Tryz.results45, go_sem, List.replicate, hpush_nb]
  refine LoopW.loop (fun y : Nat × List Int × Nat × Heap => ⟨ofL [(0, .optr cb 0), (2, .val (.slice none 0 0)), (3, .own y.2.2.1 0 y.1 y.1 1 false), (4, .val (.int .i64 y.1))], y.2.2.2⟩)
    (fun y => y.1 ≤ 6 ∧ y.2.1.length = y.1 ∧ H.nb ≤ y.2.2.1 ∧ y.2.2.1 < y.2.2.2.nb ∧ y.2.2.2.map y.2.2.1 = some ⟨ints y.2.1, false⟩ ∧ DS B cb H y.2.2.2) (fun y => 6 - y.1)
    (0, [], H.nb, H.push ⟨[], false⟩) ⟨by simp, rfl, Nat.le_refl _, by show H.nb < (H.push _).nb; rw [hpush_nb]; omega, by show (H.push _).map H.nb = _; rw [hpush_map, if_pos rfl]; rfl, e1⟩ (Wk.of (by simp only [go_sem, ↓List.forall_mem_cons, List.not_mem_nil, false_implies, implies_true, and_true, true_and, and_self, ri_eq, Int.natCast_add, Int.cast_ofNat_Int]; try simp) rfl) ?_
  clear e1
  rintro ⟨k, L, lb, H2⟩ ⟨hk, hL, l1, l2, hml, hd2⟩
  simp only at hk hL l1 l2 hml hd2
  by_cases hlt : k < 6
  · refine SW_of_vc Tryz.mixed _ _ _ (by kernel_rfl) ?_
    have e4 := hd2.trans (DS.push hd2.cur (by omega) ⟨ints [0, 400, 500, 700, 800, 900, 1000], false⟩)
    have wp := Tryz.l1Pick_ok B hB [0, 400, 500, 700, 800, 900, 1000] (by simp) (by simp) (H2.push ⟨ints [0, 400, 500, 700, 800, 900, 1000], false⟩) cb H2.nb false false e4.cur (by rw [hpush_map, if_pos rfl]) (by omega)
    simp (disch := omega) only [Tryz.ntmps45, Tryz.results45, go_sem, hml, repI7', List.set_cons_zero, List.set_cons_succ, List.length_cons, List.length_nil, ints7, hset_map, hpush_map, hset_nb, hpush_nb]
    refine wp.callX ?_
    rintro r H3 ⟨v, rfl, hv, hs3⟩
    have hnb3 : H3.nb = H2.nb + 1 := hs3.nb
    have hnbd := hd2.nb
    have hml3 : H3.map lb = some ⟨ints L, false⟩ := by rw [hs3.map (by omega), hpush_map, if_neg (by omega), hml]
    have hd3 := e4.trans hs3.ds
    have hil : (ints L).length = k := by rw [ints_length, hL]
    have htk : (ints L).take k = ints L := List.take_of_length_le (by omega)
    have hsn := ints_snoc1 L v
    simp (disch := omega) only [Tryz.ntmps45, Tryz.results45, go_sem, hml3, hil, htk, hsn, hset_map, hpush_map, hset_nb, hpush_nb]
    have e5 := (hd3.trans (DS.push hd3.cur (by omega) ⟨[.val (.int .i64 v)], false⟩)).setF lb (by omega) (by omega) none
    have e6 := e5.trans (DS.push e5.cur (by rw [hset_nb, hpush_nb]; omega) ⟨ints (L ++ [v]), false⟩)
    refine ⟨(k + 1, L ++ [v], H3.nb + 1, _), ⟨hlt, by show (L ++ [v]).length = k + 1; simp [hL], ?_, ?_, ?_, e6⟩, by show 6 - (k + 1) < 6 - k; omega, Wk.of (by simp only [go_sem, ↓List.forall_mem_cons, List.not_mem_nil, false_implies, implies_true, and_true, true_and, and_self, ri_eq, Int.natCast_add, Int.cast_ofNat_Int]; try simp) rfl⟩
    · show H.nb ≤ H3.nb + 1; omega
    · simp only [hset_nb, hpush_nb]; omega
    · show Heap.map _ (H3.nb + 1) = some ⟨ints (L ++ [v]), false⟩
      simp (disch := omega) only [hset_map, hpush_map, hset_nb, hpush_nb, if_pos, if_neg, ↓reduceIte]
  · obtain rfl : k = 6 := by omega
    refine SW_of_vc Tryz.mixed _ _ _ (by kernel_rfl) ?_
    simp (disch := omega) only [Tryz.ntmps45, Tryz.results45, go_sem, hml]
    exact ⟨L, lb, rfl, hml, l1, l2, hL, hd2⟩
set_option maxRecDepth 20000 in
set_option maxHeartbeats 16000000 in
theorem Tryz.l9Any_ok (B : List Int) (hB : B.length ≤ 1048576) (H : Heap) (cb : Nat) (hc : Cur B H cb) (hcb : cb < H.nb) : CallS Tryz.prog 24 [.optr cb 0] H (FvQ B cb H) := by
  have w1 := Tryz.l9Vector_ok B hB H cb hc hcb
  refine CallS.of_body Tryz.func24 rfl (by kernel_rfl) (by simp [Tryz.ntmps24]) ?_
  refine SW.seqW ⟨ofL [(0, .optr cb 0), (2, .val (.slice none 0 0))], H⟩ ?_ ?_
  · refine SW_of_vc Tryz.mixed _ _ _ (by kernel_rfl) ?_
    simp (disch := omega) only [Tryz.ntmps24, Tryz.results24, go_sem]
    exact Wk.of (by simp only [go_sem, ↓List.forall_mem_cons, List.not_mem_nil, false_implies, implies_true, and_true, true_and, and_self, ri_eq, Int.natCast_add, Int.cast_ofNat_Int]; try simp) rfl
  refine SW.seqI (fun y : List Int × Nat × Heap => ⟨ofL [(0, .optr cb 0), (2, .val (.slice none 0 0)), (3, .own y.2.1 0 6 6 1 false)], y.2.2⟩)
    (fun y => y.1.length = 6 ∧ H.nb ≤ y.2.1 ∧ y.2.1 < y.2.2.nb ∧ y.2.2.map y.2.1 = some ⟨ints y.1, false⟩ ∧ DS B cb H y.2.2) ?_ ?_
  · refine SW_of_vc Tryz.mixed _ _ _ (by kernel_rfl) ?_
    simp (disch := omega) only [Tryz.ntmps24, Tryz.results24, go_sem]
    refine w1.callX ?_
    rintro r H1 ⟨F, lb, rfl, hml, l1, l2, hF, hd⟩
    simp (disch := omega) only [Tryz.ntmps24, Tryz.results24, go_sem]
    exact ⟨(F, lb, H1), ⟨hF, l1, l2, hml, hd⟩, Wk.of (by simp only [go_sem, ↓List.forall_mem_cons, List.not_mem_nil, false_implies, implies_true, and_true, true_and, and_self, ri_eq, Int.natCast_add, Int.cast_ofNat_Int]; try simp) rfl⟩
  rintro ⟨F, lb, H1⟩ ⟨hF, l1, l2, hml, hd⟩
  simp only at hF l1 l2 hml hd
  refine SW_of_vc Tryz.mixed _ _ _ (by kernel_rfl) ?_
  have wb := Tryz.l1Below_ok B hB 16 (by omega) H1 cb hd.cur
  simp (disch := omega) only [Tryz.ntmps24, Tryz.results24, go_sem]
  refine wb.callX ?_
  rintro r H2 ⟨v, rfl, v0, v1, v2, hs⟩
  have hd2 := hd.trans hs.ds
  have hnb2 : H2.nb = H1.nb := hs.nb
  have hnbd := hd.nb
  have hml2 : H2.map lb = some ⟨ints F, false⟩ := by rw [hs.map (by omega), hml]
  have hil : (ints F).length = 6 := by rw [ints_length, hF]
  rcases (by omega : v = 0 ∨ v = 1 ∨ 2 ≤ v) with rfl | rfl | h3
  · have hdp := hd2.trans (DS.push hd2.cur (by omega) ⟨ints [-1, 1001], false⟩)
    have wp := Tryz.l1Pick_ok B hB [-1, 1001] (by simp) (by simp) (H2.push ⟨ints [-1, 1001], false⟩) cb H2.nb false false hdp.cur (by rw [hpush_map, if_pos rfl]) (by omega)
    have i2 : ∀ a b : Int, [SV.val (.int .i64 a), .val (.int .i64 b)] = ints [a, b] := fun _ _ => rfl
    have r2 : List.replicate 2 (SV.val (.int .i64 0)) = [SV.val (.int .i64 0), SV.val (.int .i64 0)] := rfl
    simp (disch := omega) only [Tryz.ntmps24, Tryz.results24, go_sem, r2, List.set_cons_zero, List.set_cons_succ, List.length_cons, List.length_nil, i2, hset_map, hpush_map, hset_nb, hpush_nb]
    refine wp.callX ?_
    rintro r H3 ⟨q, rfl, hq, hs3⟩
    have hnb3 : H3.nb = H2.nb + 1 := hs3.nb
    have hml3 : H3.map lb = some ⟨ints F, false⟩ := by rw [hs3.map (by omega), hpush_map, if_neg (by omega), hml2]
    have hd3 := hdp.trans hs3.ds
    have hst := ints_set1 F 0 q
    simp (disch := omega) only [Tryz.ntmps24, Tryz.results24, go_sem, hml3, hil, hst, hset_map, hpush_map, hset_nb, hpush_nb]
    have e6 := hd3.setF lb (by omega) (by omega) (some ⟨ints (F.set 0 q), false⟩)
    refine ⟨F.set 0 q, F.set 0 q, lb, 0, 6, rfl, ?_, by rw [List.drop_zero, List.take_of_length_le (by rw [List.length_set]; omega)], by rw [List.length_set]; omega, l1, ?_, by rw [List.length_set]; omega, e6⟩
    · simp (disch := omega) only [hset_map, hpush_map, hset_nb, hpush_nb, if_pos, if_neg, ↓reduceIte]
    · simp only [hset_nb, hpush_nb]; omega
  · simp (disch := omega) only [Tryz.ntmps24, Tryz.results24, go_sem, hml2, hset_map, hpush_map, hset_nb, hpush_nb]
    exact ⟨(F.drop 1).take 5, F, lb, 1, 5, rfl, hml2, rfl, by omega, l1, by omega, by rw [List.length_take]; omega, hd2⟩
  · have h0 : ¬ v = 0 := by omega
    have h1 : ¬ v = 1 := by omega
    simp (disch := omega) only [Tryz.ntmps24, Tryz.results24, go_sem, hml2, h0, h1, hset_map, hpush_map, hset_nb, hpush_nb]
    exact ⟨F, F, lb, 0, 6, rfl, hml2, by rw [List.drop_zero, List.take_of_length_le (by omega)], by omega, l1, by omega, by omega, hd2⟩
theorem view_ownD {H : Heap} {b n o f cap : Nat} {ex e2 : Bool} {L : List Int} (hb : H.map b = some ⟨ints L, e2⟩) (hn : o + n ≤ L.length) : Sh.view H (f + 1) (.own b o n cap 1 ex) = some (ri ((L.drop o).take n)) := by
  simp only [Sh.view, hb, Nat.mul_one]
  rw [if_pos (by rw [ints_length]; exact hn)]
  have e : ((ints L).drop o).take n = ints ((L.drop o).take n) := by simp only [ints, List.map_drop, List.map_take]
  rw [e, viewL_ints, ri]
  simp only [List.length_take, List.length_drop]
  rw [show min n (L.length - o) = n by omega]
/-- What FnRuleFormat draws. -/
def PwT (T : SV) : Prop := ∃ (R : List (List Con)) (W : List Int) (b : Int) (F : List Int), T = .tup [.agg [rR R], sS W b, ri F] ∧ (1 ≤ R.length ∧ R.length ≤ 4) ∧ (∀ i, i < R.length → (rg R i).length ≤ 3) ∧ W.length = 6 ∧ F.length ≤ 6
def R3' (S : SV → Prop) (r : SV) (H : Heap) : Prop := ∃ T, view H 5 r = some T ∧ S T
open Classical in
theorem fin_pw {H : Heap} {lo ob lb fb o : Nat} {cs : List SV} {nm : Nat → Nat} {R : List (List Con)} {W G F : List Int} {b : Int} {n : Nat} (hR : RuH H lo R ob cs nm) (hl : H.map lb = some ⟨ints W, false⟩) (hf : H.map fb = some ⟨ints G, false⟩)
    (hF : (G.drop o).take n = F) (hn : o + n ≤ G.length) (h14 : 1 ≤ R.length ∧ R.length ≤ 4) (h3 : ∀ i, i < R.length → (rg R i).length ≤ 3) (hW : W.length = 6) (h6 : F.length ≤ 6) :
    Fin (R3' PwT) (.tup [.agg [nlG 1 ob R.length], .agg [.own lb 0 6 6 1 false, .val (.int .i64 b)], .own fb o n n 1 false]) H := by
  let p : Nat → Prop := fun b => ((R.length ≠ 0 ∧ b = ob) ∨ (∃ i, i < R.length ∧ (rg R i).length ≠ 0 ∧ b = nm i)) ∨ b = lb ∨ b = fb
  have hR2 := hR.part p (fun h => .inl (.inl ⟨h, rfl⟩)) (fun i hi h => .inl (.inr ⟨i, hi, h, rfl⟩))
  have hl2 : (part H p).map lb = some ⟨ints W, false⟩ := by rw [part_map (.inr (.inl rfl)), hl]
  have hf2 : (part H p).map fb = some ⟨ints G, false⟩ := by rw [part_map (.inr (.inr rfl)), hf]
  refine ⟨part H p, part_sub H p, by simp only [noRow, noRowL, noRow_nlG, Bool.and_self], fun b blk hb => ?_, .tup [.agg [rR R], sS W b, ri F], ?_, R, W, b, F, rfl, h14, h3, hW, h6⟩
  · have hb' : (if p b then H.map b else none) = some blk := hb
    split at hb'
    · rename_i hp
      rcases hp with (⟨h0, rfl⟩ | ⟨i, hi, h0, rfl⟩) | rfl | rfl
      · rw [hR.o h0] at hb'; simp at hb'; subst hb'; exact hR.nr
      · rw [((hR.row i hi).2 h0).1] at hb'; simp at hb'; subst hb'; exact noRowL_cons _
      · rw [hl] at hb'; simp at hb'; subst hb'; exact noRowL_ints _
      · rw [hf] at hb'; simp at hb'; subst hb'; exact noRowL_ints _
    · simp at hb'
  · have v1 : Sh.view (part H p) 4 (.agg [nlG 1 ob R.length]) = some (.agg [rR R]) := by
      have : viewL (part H p) 3 [nlG 1 ob R.length] = some [rR R] := viewL_cons_of (hR2.view (f := 1)) viewL_nil_of
      simp only [Sh.view, this]
    have v2 : Sh.view (part H p) 4 (.agg [.own lb 0 6 6 1 false, .val (.int .i64 b)]) = some (sS W b) := by
      have : viewL (part H p) 3 [.own lb 0 6 6 1 false, .val (.int .i64 b)] = some [ri W, .val (.int .i64 b)] := viewL_cons_of (view_own hl2 hW.symm) (viewL_cons_of view_int viewL_nil_of)
      simp only [Sh.view, this, sS]
    have v3 : Sh.view (part H p) 4 (.own fb o n n 1 false) = some (ri F) := by rw [← hF]; exact view_ownD hf2 hn
    have : viewL (part H p) 4 [.agg [nlG 1 ob R.length], .agg [.own lb 0 6 6 1 false, .val (.int .i64 b)], .own fb o n n 1 false] = some [.agg [rR R], sS W b, ri F] := viewL_cons_of v1 (viewL_cons_of v2 (viewL_cons_of v3 viewL_nil_of))
    simp only [Sh.view, this]
set_option maxHeartbeats 8000000 in
theorem Tryz.drawPw_e (B : List Int) (hB : B.length ≤ 1048576) : PCallE Tryz.prog 5 [rby B] PwT := by
  refine FCall.pcallE (R := R3' PwT) ?_ 5 (fun _ _ h => h)
  refine FCall.of_body Tryz.func5 rfl (by kernel_rfl) (by simp [Tryz.ntmps5]) ?_
  refine SW_of_vc Tryz.mixed _ _ _ (by kernel_rfl) ?_
  simp (disch := omega) only [Tryz.ntmps5, Tryz.results5, go_sem, rby]
  refine (Tryz.l1New_ok B hB _).callX ?_
  rintro r H0 ⟨h, rfl, rfl⟩
  generalize hHd : hp [(1, ⟨[.val (.slice none 0 0), .val (.int .i64 0)], true⟩), (0, ⟨[.val (.slice none 0 0)], true⟩)] 2 = Hd at *
  have hm0 : Hd.map 0 = some ⟨[.val (.slice none 0 0)], true⟩ := by rw [← hHd]; rfl
  have hm1 : Hd.map 1 = some ⟨[.val (.slice none 0 0), .val (.int .i64 0)], true⟩ := by rw [← hHd]; rfl
  have hnd : Hd.nb = 2 := by rw [← hHd]; rfl
  clear hHd
  have hc : Cur B (Hd.push (curB B 0 h)) 2 := ⟨0, h, by omega, by rw [hpush_map, hnd]; rfl⟩
  have hn0 : (Hd.push (curB B 0 h)).nb = 3 := by rw [hpush_nb, hnd]
  have hm0 : (Hd.push (curB B 0 h)).map 0 = some ⟨[.val (.slice none 0 0)], true⟩ := by rw [hpush_map, if_neg (by omega), hm0]
  have hm1 : (Hd.push (curB B 0 h)).map 1 = some ⟨[.val (.slice none 0 0), .val (.int .i64 0)], true⟩ := by rw [hpush_map, if_neg (by omega), hm1]
  rw [hnd]
  generalize Hd.push (curB B 0 h) = H0 at *
  simp (disch := omega) only [Tryz.ntmps5, Tryz.results5, go_sem, rby]
  refine (Tryz.l14Any_ok B hB H0 2 hc (by omega)).callX ?_
  rintro r H1 ⟨R, ob, cs, nm, rfl, hR, hd1, h14, h3⟩
  have hn1 := hd1.nb
  simp (disch := omega) only [Tryz.ntmps5, Tryz.results5, go_sem, rby]
  refine (Tryz.l16Any_ok B hB H1 2 hd1.cur (by omega)).callX ?_
  rintro r H2 ⟨W, b, lb, rfl, hml, l1, l2, hW, hd2⟩
  have hn2 := hd2.nb
  simp (disch := omega) only [Tryz.ntmps5, Tryz.results5, go_sem, rby]
  refine (Tryz.l9Any_ok B hB H2 2 hd2.cur (by omega)).callX ?_
  rintro r H3 ⟨F, G, fb, o, n, rfl, hmf, hF, hon, f1, f2, h6, hd3⟩
  have hn3 := hd3.nb
  have a0 : H3.map 0 = some ⟨[.val (.slice none 0 0)], true⟩ := by rw [hd3.fr _ (by omega) (by omega), hd2.fr _ (by omega) (by omega), hd1.fr _ (by omega) (by omega), hm0]
  have a1 : H3.map 1 = some ⟨[.val (.slice none 0 0), .val (.int .i64 0)], true⟩ := by rw [hd3.fr _ (by omega) (by omega), hd2.fr _ (by omega) (by omega), hd1.fr _ (by omega) (by omega), hm1]
  have al : H3.map lb = some ⟨ints W, false⟩ := by rw [hd3.fr _ (by omega) (by omega), hml]
  have hR3 : RuH H3 3 R ob cs nm := by
    rw [← hn0]
    exact (hR.fr hd2.nb (fun b b1 b2 => hd2.fr b b2 (by omega))).fr hd3.nb (fun b b1 b2 => hd3.fr b b2 (by omega))
  have e0 := nlG_f (z := 1) (b := ob) (n := R.length) (by omega)
  simp (disch := omega) only [Tryz.ntmps5, Tryz.results5, go_sem, rby, e0, a0, a1, List.set_cons_zero, List.set_cons_succ, hset_map, hset_nb]
  rw [← e0]
  have hR4 := (hR3.fr (H' := H3.set 0 (some ⟨[nlG 1 ob R.length], true⟩)) (by rw [hset_nb]; omega) (fun b b1 b2 => by rw [hset_map, if_neg (by omega)])).fr (H' := (H3.set 0 (some ⟨[nlG 1 ob R.length], true⟩)).set 1 (some ⟨[.own lb 0 6 6 1 false, .val (.int .i64 b)], true⟩)) (by simp only [hset_nb]; omega) (fun b b1 b2 => by rw [hset_map, if_neg (by omega)])
  refine fin_pw hR4 ?_ ?_ hF hon h14 h3 hW h6
  · simp (disch := omega) only [hset_map, if_neg]
    exact al
  · simp (disch := omega) only [hset_map, if_neg]
    exact hmf
end Go.Sh

/-
  The laws' own helpers: is the code long; are two lists the same.
-/
namespace Go.Sh
set_option linter.unusedSimpArgs false
set_option linter.unusedVariables false
open Go Go.RowKit Go.Proofs

theorem Tryz.big_ok (B : List Int) (hB : B.length ≤ 9223372036854775807) : PCall Tryz.prog 4 [rby B] (.val (.bool (decide (1048576 < B.length)))) := by
  refine FCall.pcall (R := fun r _ => r = .val (.bool (decide (1048576 < B.length)))) ?_ 0 (by rintro r H rfl; exact view_bool)
  refine FCall.of_body Tryz.func4 rfl (by kernel_rfl) (by simp [Tryz.ntmps4]) ?_
  refine SW_of_vc Tryz.mixed _ _ _ (by kernel_rfl) ?_
  by_cases h : 1048576 < B.length
  · rw [decide_eq_true h]
    simp (disch := omega) only [Tryz.ntmps4, Tryz.results4, go_sem, rby]
    exact Fin.val rfl
  · rw [decide_eq_false h]
    simp (disch := omega) only [Tryz.ntmps4, Tryz.results4, go_sem, rby]
    exact Fin.val rfl
theorem Tryz.sameInts_ok (A : List Int) (hA : A.length ≤ 1048576) : PCall Tryz.prog 20 [ri A, ri A] (.val (.bool true)) := by
  refine FCall.pcall (R := fun r _ => r = .val (.bool true)) ?_ 0 (by rintro r H rfl; exact view_bool)
  refine FCall.of_body Tryz.func20 rfl (by kernel_rfl) (by simp [Tryz.ntmps20]) ?_
  refine SW_of_vc Tryz.mixed _ _ _ (by kernel_rfl) ?_
  simp (disch := omega) only [Tryz.ntmps20, Tryz.results20, go_sem]
  refine LoopW.loop (fun k : Nat => ⟨ofL [(0, ri A), (1, ri A), (5, .val (.int .i64 k))], hp [] 0⟩) (fun k => k ≤ A.length) (fun k => A.length - k) 0 (by omega) (Wk.of (by simp only [go_sem, ↓List.forall_mem_cons, List.not_mem_nil, false_implies, implies_true, and_true, true_and, and_self, ri_eq, Int.natCast_add, Int.cast_ofNat_Int]; try simp) rfl) ?_
  intro k hk
  refine SW_of_vc Tryz.mixed _ _ _ (by kernel_rfl) ?_
  by_cases hlt : k < A.length
  · have gx : (ints A)[k]? = some (.val (.int .i64 (A.getD k 0))) := ints_get hlt
    have hil := ints_length A
    simp (disch := omega) only [Tryz.ntmps20, Tryz.results20, go_sem, gx, hil, bne_self_eq_false]
    exact ⟨k + 1, by omega, by omega, Wk.of (by simp only [go_sem, ↓List.forall_mem_cons, List.not_mem_nil, false_implies, implies_true, and_true, true_and, and_self, ri_eq, Int.natCast_add, Int.cast_ofNat_Int]; try simp) rfl⟩
  · simp (disch := omega) only [Tryz.ntmps20, Tryz.results20, go_sem]
    exact Fin.val rfl
end Go.Sh

/-
  The law FnRuleFormat, walked (printed by wip/gen_efr.py).
-/
namespace Go.Sh
set_option linter.unusedSimpArgs false
set_option linter.unusedVariables false
open Go Go.RowKit Go.Proofs

theorem fmtR_le (R : List (List Con)) : (fmtR R).length ≤ 1048576 := by
  rcases Bool.eq_false_or_eq_true (isVR R) with h | h
  · have := fmtR_len h; omega
  · rw [fmtR, if_neg (by simp [h])]; simp
set_option maxRecDepth 20000 in
set_option maxHeartbeats 16000000 in
theorem Tryz.fnRuleFormat_ok (B : List Int) (hBw : B.length ≤ 9223372036854775807) : PCall Tryz.prog 3 [rby B] (.val (.bool true)) := by
  have wbig := Tryz.big_ok B hBw
  refine FCall.pcall (R := fun r _ => r = .val (.bool true)) ?_ 0 (by rintro r H rfl; exact view_bool)
  refine FCall.of_body Tryz.func3 rfl (by kernel_rfl) (by simp [Tryz.ntmps3]) ?_
  refine SW.seqW ⟨ofL [(0, rby B)], hp [] 0⟩ ?_ ?_
  · refine SW_of_vc Tryz.mixed _ _ _ (by kernel_rfl) ?_
    simp (disch := omega) only [Tryz.ntmps3, Tryz.results3, go_sem, rby]
    exact Wk.of (by simp only [go_sem, ↓List.forall_mem_cons, List.not_mem_nil, false_implies, implies_true, and_true, true_and, and_self, ri_eq, Int.natCast_add, Int.cast_ofNat_Int, rby]; try simp) rfl
  by_cases hB : 1048576 < B.length
  · rw [decide_eq_true hB] at wbig
    refine SW_of_vc Tryz.mixed _ _ _ (by kernel_rfl) ?_
    simp (disch := omega) only [Tryz.ntmps3, Tryz.results3, go_sem, rby]
    refine wbig.callV 0 (viewL_cons_of (view_row) viewL_nil_of) ?_
    simp (disch := omega) only [Tryz.ntmps3, Tryz.results3, go_sem, rby]
    exact Fin.val rfl
  rw [decide_eq_false hB] at wbig
  have hB : B.length ≤ 1048576 := by omega
  refine SW.seqW ⟨ofL [(0, rby B)], hp [] 0⟩ ?_ ?_
  · refine SW_of_vc Tryz.mixed _ _ _ (by kernel_rfl) ?_
    simp (disch := omega) only [Tryz.ntmps3, Tryz.results3, go_sem, rby]
    refine wbig.callV 0 (viewL_cons_of (view_row) viewL_nil_of) ?_
    simp (disch := omega) only [Tryz.ntmps3, Tryz.results3, go_sem, rby]
    exact Wk.of (by simp only [go_sem, ↓List.forall_mem_cons, List.not_mem_nil, false_implies, implies_true, and_true, true_and, and_self, ri_eq, Int.natCast_add, Int.cast_ofNat_Int, rby]; try simp) rfl
  refine SW.seqI (fun y : List (List Con) × List Int × Int × List Int => ⟨ofL [(3, .optr 0 0), (4, .optr 1 0), (5, ri y.2.2.2)], hp [(1, ⟨[ri y.2.1, .val (.int .i64 y.2.2.1)], true⟩), (0, ⟨[rR y.1], true⟩)] 2⟩)
    (fun y => (1 ≤ y.1.length ∧ y.1.length ≤ 4) ∧ (∀ i, i < y.1.length → (rg y.1 i).length ≤ 3) ∧ y.2.1.length = 6 ∧ y.2.2.2.length ≤ 6) ?_ ?_
  · refine SW_of_vc Tryz.mixed _ _ _ (by kernel_rfl) ?_
    simp (disch := omega) only [Tryz.ntmps3, Tryz.results3, go_sem, rby]
    refine (Tryz.drawPw_e B hB).callE 0 (viewL_cons_of (view_row) viewL_nil_of) ?_
    rintro T ⟨R, W, b, f, rfl, h14, h3, hW, h6⟩
    simp (disch := omega) only [Tryz.ntmps3, Tryz.results3, go_sem, rby, rR, sS, List.set_cons_zero, List.set_cons_succ]
    exact ⟨(R, W, b, f), ⟨h14, h3, hW, h6⟩, Wk.ofH (by simp only [go_sem, ↓List.forall_mem_cons, List.not_mem_nil, false_implies, implies_true, and_true, true_and, and_self, ri_eq, Int.natCast_add, Int.cast_ofNat_Int, rR, sS]; try simp) (by simp (disch := omega) only [go_sem, ↓List.forall_mem_cons, List.not_mem_nil, false_implies, implies_true, and_true, true_and, and_self, ri_eq, Int.natCast_add, Int.cast_ofNat_Int, if_pos, if_neg, Nat.reduceAdd, List.nil_append, rR, sS]; try simp) (Nat.le_refl _)⟩
  rintro ⟨R, W, b, f⟩ ⟨h14, h3, hW, h6⟩
  simp only at h14 h3 hW h6
  clear wbig
  have hRl : R.length ≤ 1048576 := by omega
  have hTl : ∀ i, i < R.length → (rg R i).length ≤ 1048576 := fun i hi => by have := h3 i hi; omega
  have hWl : W.length ≤ 1048576 := by omega
  have hfl : f.length ≤ 1048576 := by omega
  have w1 := Tryz.implPW_ok R W b f hRl hTl hWl hfl
  have w2 := Tryz.specPW_ok R W b f hRl hTl hWl hfl
  have w3 := Tryz.implPSa_ok W b f hWl hfl
  have w4 := Tryz.specPSa_ok W b f hWl hfl
  have v1 := Tryz.specVR_ok R hRl hTl
  have v2 := Tryz.specSc_ok W b hWl
  have v3 := Tryz.specFV_ok f hfl
  have v4 := Tryz.specRsH_ok R f hRl hTl hfl
  have f1 := Tryz.implFmR_ok R hRl hTl
  have f2 := Tryz.implFS_ok W b hWl
  have f3 := Tryz.implFF_ok f hfl
  obtain ⟨X, hX, p1⟩ := Tryz.backR R
  obtain ⟨Y, c, hY, hYl, p2⟩ := Tryz.backS W b
  obtain ⟨Z, hZ, p3⟩ := Tryz.backF f
  have sf := Tryz.sameInts_ok f hfl
  have hsg := fun h1 h2 h3 => pwt_sign (R := R) (W := W) (b := b) (f := f) h1 h2 h3
  generalize pwt R W b f = w at *
  generalize psf W b f = sc at *
  generalize fmtR R = t at *
  generalize fmtS W b = u at *
  generalize fmtF f = v at *
  refine SW.seqW ⟨ofL [(3, .optr 0 0), (4, .optr 1 0), (5, ri f), (6, .val (.int .i64 w))], hp [(1, ⟨[ri W, .val (.int .i64 b)], true⟩), (0, ⟨[rR R], true⟩)] 2⟩ ?_ ?_
  · refine SW_of_vc Tryz.mixed _ _ _ (by kernel_rfl) ?_
    simp (disch := omega) only [Tryz.ntmps3, Tryz.results3, go_sem, rR]
    refine w1.callV 1 (viewL_cons_of view_rule (viewL_cons_of view_sS (viewL_cons_of view_row viewL_nil_of))) ?_
    simp (disch := omega) only [Tryz.ntmps3, Tryz.results3, go_sem, rR]
    exact Wk.of (by simp only [go_sem, ↓List.forall_mem_cons, List.not_mem_nil, false_implies, implies_true, and_true, true_and, and_self, ri_eq, Int.natCast_add, Int.cast_ofNat_Int, rR]; try simp) rfl
  refine SW.seqW ⟨ofL [(3, .optr 0 0), (4, .optr 1 0), (5, ri f), (6, .val (.int .i64 w))], hp [(1, ⟨[ri W, .val (.int .i64 b)], true⟩), (0, ⟨[rR R], true⟩)] 2⟩ ?_ ?_
  · refine SW_of_vc Tryz.mixed _ _ _ (by kernel_rfl) ?_
    simp (disch := omega) only [Tryz.ntmps3, Tryz.results3, go_sem, rR]
    refine w2.callDV 1 (viewL_cons_of view_rule (viewL_cons_of view_sS (viewL_cons_of view_row viewL_nil_of))) ?_
    simp (disch := omega) only [Tryz.ntmps3, Tryz.results3, go_sem, rR, bne_self_eq_false]
    refine w3.callDV 1 (viewL_cons_of view_sS (viewL_cons_of view_row viewL_nil_of)) ?_
    simp (disch := omega) only [Tryz.ntmps3, Tryz.results3, go_sem, rR, bne_self_eq_false]
    refine w4.callDV 1 (viewL_cons_of view_sS (viewL_cons_of view_row viewL_nil_of)) ?_
    simp (disch := omega) only [Tryz.ntmps3, Tryz.results3, go_sem, rR, bne_self_eq_false]
    exact Wk.of (by simp only [go_sem, ↓List.forall_mem_cons, List.not_mem_nil, false_implies, implies_true, and_true, true_and, and_self, ri_eq, Int.natCast_add, Int.cast_ofNat_Int, rR]; try simp) rfl
  refine SW.seqW ⟨ofL [(3, .optr 0 0), (4, .optr 1 0), (5, ri f)], hp [(1, ⟨[ri W, .val (.int .i64 b)], true⟩), (0, ⟨[rR R], true⟩)] 2⟩ ?_ ?_
  · rcases Bool.eq_false_or_eq_true (isVR R) with q1 | q1
    · rcases Bool.eq_false_or_eq_true (isSc W b) with q2 | q2
      · rcases Bool.eq_false_or_eq_true (isFV f) with q3 | q3
        · obtain ⟨s1, s2⟩ := hsg q1 q2 q3
          rw [← s2] at v4
          rw [q1] at v1; rw [q2] at v2; rw [q3] at v3
          refine SW_of_vc Tryz.mixed _ _ _ (by kernel_rfl) ?_
          simp (disch := omega) only [Tryz.ntmps3, Tryz.results3, go_sem, rR]
          refine v1.callV 1 (viewL_cons_of view_rule viewL_nil_of) ?_
          simp (disch := omega) only [Tryz.ntmps3, Tryz.results3, go_sem, rR]
          refine v2.callV 1 (viewL_cons_of view_sS viewL_nil_of) ?_
          simp (disch := omega) only [Tryz.ntmps3, Tryz.results3, go_sem, rR]
          refine v3.callV 0 (viewL_cons_of (view_row) viewL_nil_of) ?_
          simp (disch := omega) only [Tryz.ntmps3, Tryz.results3, go_sem, rR, s1]
          refine v4.callV 1 (viewL_cons_of view_rule (viewL_cons_of view_row viewL_nil_of)) ?_
          simp (disch := omega) only [Tryz.ntmps3, Tryz.results3, go_sem, rR, s1, bne_self_eq_false, beq_self_eq_true, Bool.not_true]
          exact Wk.of (by simp only [go_sem, ↓List.forall_mem_cons, List.not_mem_nil, false_implies, implies_true, and_true, true_and, and_self, ri_eq, Int.natCast_add, Int.cast_ofNat_Int, rR]; try simp) rfl
        · rw [q1] at v1; rw [q2] at v2; rw [q3] at v3
          refine SW_of_vc Tryz.mixed _ _ _ (by kernel_rfl) ?_
          simp (disch := omega) only [Tryz.ntmps3, Tryz.results3, go_sem, rR]
          refine v1.callV 1 (viewL_cons_of view_rule viewL_nil_of) ?_
          simp (disch := omega) only [Tryz.ntmps3, Tryz.results3, go_sem, rR]
          refine v2.callV 1 (viewL_cons_of view_sS viewL_nil_of) ?_
          simp (disch := omega) only [Tryz.ntmps3, Tryz.results3, go_sem, rR]
          refine v3.callV 0 (viewL_cons_of (view_row) viewL_nil_of) ?_
          simp (disch := omega) only [Tryz.ntmps3, Tryz.results3, go_sem, rR]
          exact Wk.of (by simp only [go_sem, ↓List.forall_mem_cons, List.not_mem_nil, false_implies, implies_true, and_true, true_and, and_self, ri_eq, Int.natCast_add, Int.cast_ofNat_Int, rR]; try simp) rfl
      · rw [q1] at v1; rw [q2] at v2
        refine SW_of_vc Tryz.mixed _ _ _ (by kernel_rfl) ?_
        simp (disch := omega) only [Tryz.ntmps3, Tryz.results3, go_sem, rR]
        refine v1.callV 1 (viewL_cons_of view_rule viewL_nil_of) ?_
        simp (disch := omega) only [Tryz.ntmps3, Tryz.results3, go_sem, rR]
        refine v2.callV 1 (viewL_cons_of view_sS viewL_nil_of) ?_
        simp (disch := omega) only [Tryz.ntmps3, Tryz.results3, go_sem, rR]
        exact Wk.of (by simp only [go_sem, ↓List.forall_mem_cons, List.not_mem_nil, false_implies, implies_true, and_true, true_and, and_self, ri_eq, Int.natCast_add, Int.cast_ofNat_Int, rR]; try simp) rfl
    · rw [q1] at v1
      refine SW_of_vc Tryz.mixed _ _ _ (by kernel_rfl) ?_
      simp (disch := omega) only [Tryz.ntmps3, Tryz.results3, go_sem, rR]
      refine v1.callV 1 (viewL_cons_of view_rule viewL_nil_of) ?_
      simp (disch := omega) only [Tryz.ntmps3, Tryz.results3, go_sem, rR]
      exact Wk.of (by simp only [go_sem, ↓List.forall_mem_cons, List.not_mem_nil, false_implies, implies_true, and_true, true_and, and_self, ri_eq, Int.natCast_add, Int.cast_ofNat_Int, rR]; try simp) rfl
  clear w1 w2 w3 w4 v4 hsg
  refine SW.seqW ⟨ofL [(3, .optr 0 0), (4, .optr 1 0), (5, ri f), (7, str t)], hp [(1, ⟨[ri W, .val (.int .i64 b)], true⟩), (0, ⟨[rR R], true⟩)] 2⟩ ?_ ?_
  · refine SW_of_vc Tryz.mixed _ _ _ (by kernel_rfl) ?_
    simp (disch := omega) only [Tryz.ntmps3, Tryz.results3, go_sem, rR]
    refine f1.callV 1 (viewL_cons_of view_rule viewL_nil_of) ?_
    simp (disch := omega) only [Tryz.ntmps3, Tryz.results3, go_sem, rR, sS, List.set_cons_zero, List.set_cons_succ]
    exact Wk.of (by simp only [go_sem, ↓List.forall_mem_cons, List.not_mem_nil, false_implies, implies_true, and_true, true_and, and_self, ri_eq, Int.natCast_add, Int.cast_ofNat_Int, rR]; try simp) rfl
  refine SW.seqW ⟨ofL [(3, .optr 0 0), (4, .optr 1 0), (5, ri f), (7, str t), (8, .optr 2 0), (9, .val (.bool (isVR R)))], hp [(2, ⟨[rR X], true⟩), (1, ⟨[ri W, .val (.int .i64 b)], true⟩), (0, ⟨[rR R], true⟩)] 3⟩ ?_ ?_
  · refine SW_of_vc Tryz.mixed _ _ _ (by kernel_rfl) ?_
    simp (disch := omega) only [Tryz.ntmps3, Tryz.results3, go_sem, rR]
    refine p1.callV 0 (viewL_cons_of view_str viewL_nil_of) ?_
    simp (disch := omega) only [Tryz.ntmps3, Tryz.results3, go_sem, rR, sS, List.set_cons_zero, List.set_cons_succ]
    exact Wk.ofH (by simp only [go_sem, ↓List.forall_mem_cons, List.not_mem_nil, false_implies, implies_true, and_true, true_and, and_self, ri_eq, Int.natCast_add, Int.cast_ofNat_Int, rR, sS]; try simp) (by simp (disch := omega) only [go_sem, ↓List.forall_mem_cons, List.not_mem_nil, false_implies, implies_true, and_true, true_and, and_self, ri_eq, Int.natCast_add, Int.cast_ofNat_Int, if_pos, if_neg, Nat.reduceAdd, List.nil_append, rR, sS]; try simp) (Nat.le_refl _)
  refine SW.seqW ⟨ofL [(3, .optr 0 0), (4, .optr 1 0), (5, ri f), (7, str t), (8, .optr 2 0), (9, .val (.bool (isVR R))), (10, str u)], hp [(2, ⟨[rR X], true⟩), (1, ⟨[ri W, .val (.int .i64 b)], true⟩), (0, ⟨[rR R], true⟩)] 3⟩ ?_ ?_
  · refine SW_of_vc Tryz.mixed _ _ _ (by kernel_rfl) ?_
    simp (disch := omega) only [Tryz.ntmps3, Tryz.results3, go_sem, rR]
    refine f2.callV 1 (viewL_cons_of view_sS viewL_nil_of) ?_
    simp (disch := omega) only [Tryz.ntmps3, Tryz.results3, go_sem, rR, sS, List.set_cons_zero, List.set_cons_succ]
    exact Wk.of (by simp only [go_sem, ↓List.forall_mem_cons, List.not_mem_nil, false_implies, implies_true, and_true, true_and, and_self, ri_eq, Int.natCast_add, Int.cast_ofNat_Int, rR]; try simp) rfl
  refine SW.seqW ⟨ofL [(3, .optr 0 0), (4, .optr 1 0), (5, ri f), (7, str t), (8, .optr 2 0), (9, .val (.bool (isVR R))), (10, str u), (11, .optr 3 0), (12, .val (.bool (isSc W b)))], hp [(3, ⟨[ri Y, .val (.int .i64 c)], true⟩), (2, ⟨[rR X], true⟩), (1, ⟨[ri W, .val (.int .i64 b)], true⟩), (0, ⟨[rR R], true⟩)] 4⟩ ?_ ?_
  · refine SW_of_vc Tryz.mixed _ _ _ (by kernel_rfl) ?_
    simp (disch := omega) only [Tryz.ntmps3, Tryz.results3, go_sem, rR]
    refine p2.callV 0 (viewL_cons_of view_str viewL_nil_of) ?_
    simp (disch := omega) only [Tryz.ntmps3, Tryz.results3, go_sem, rR, sS, List.set_cons_zero, List.set_cons_succ]
    exact Wk.ofH (by simp only [go_sem, ↓List.forall_mem_cons, List.not_mem_nil, false_implies, implies_true, and_true, true_and, and_self, ri_eq, Int.natCast_add, Int.cast_ofNat_Int, rR, sS]; try simp) (by simp (disch := omega) only [go_sem, ↓List.forall_mem_cons, List.not_mem_nil, false_implies, implies_true, and_true, true_and, and_self, ri_eq, Int.natCast_add, Int.cast_ofNat_Int, if_pos, if_neg, Nat.reduceAdd, List.nil_append, rR, sS]; try simp) (Nat.le_refl _)
  refine SW.seqW ⟨ofL [(3, .optr 0 0), (4, .optr 1 0), (5, ri f), (7, str t), (8, .optr 2 0), (9, .val (.bool (isVR R))), (10, str u), (11, .optr 3 0), (12, .val (.bool (isSc W b))), (13, str v)], hp [(3, ⟨[ri Y, .val (.int .i64 c)], true⟩), (2, ⟨[rR X], true⟩), (1, ⟨[ri W, .val (.int .i64 b)], true⟩), (0, ⟨[rR R], true⟩)] 4⟩ ?_ ?_
  · refine SW_of_vc Tryz.mixed _ _ _ (by kernel_rfl) ?_
    simp (disch := omega) only [Tryz.ntmps3, Tryz.results3, go_sem, rR]
    refine f3.callV 0 (viewL_cons_of (view_row) viewL_nil_of) ?_
    simp (disch := omega) only [Tryz.ntmps3, Tryz.results3, go_sem, rR, sS, List.set_cons_zero, List.set_cons_succ]
    exact Wk.of (by simp only [go_sem, ↓List.forall_mem_cons, List.not_mem_nil, false_implies, implies_true, and_true, true_and, and_self, ri_eq, Int.natCast_add, Int.cast_ofNat_Int, rR]; try simp) rfl
  refine SW.seqW ⟨ofL [(3, .optr 0 0), (4, .optr 1 0), (5, ri f), (7, str t), (8, .optr 2 0), (9, .val (.bool (isVR R))), (10, str u), (11, .optr 3 0), (12, .val (.bool (isSc W b))), (14, ri Z), (15, .val (.bool (isFV f)))], hp [(3, ⟨[ri Y, .val (.int .i64 c)], true⟩), (2, ⟨[rR X], true⟩), (1, ⟨[ri W, .val (.int .i64 b)], true⟩), (0, ⟨[rR R], true⟩)] 4⟩ ?_ ?_
  · refine SW_of_vc Tryz.mixed _ _ _ (by kernel_rfl) ?_
    simp (disch := omega) only [Tryz.ntmps3, Tryz.results3, go_sem, rR]
    refine p3.callV 0 (viewL_cons_of view_str viewL_nil_of) ?_
    simp (disch := omega) only [Tryz.ntmps3, Tryz.results3, go_sem, rR, sS, List.set_cons_zero, List.set_cons_succ]
    exact Wk.of (by simp only [go_sem, ↓List.forall_mem_cons, List.not_mem_nil, false_implies, implies_true, and_true, true_and, and_self, ri_eq, Int.natCast_add, Int.cast_ofNat_Int, rR]; try simp) rfl
  refine SW.seqW ⟨ofL [(3, .optr 0 0), (4, .optr 1 0), (5, ri f), (7, str t), (8, .optr 2 0), (9, .val (.bool (isVR R))), (10, str u), (11, .optr 3 0), (12, .val (.bool (isSc W b))), (14, ri Z), (15, .val (.bool (isFV f)))], hp [(3, ⟨[ri Y, .val (.int .i64 c)], true⟩), (2, ⟨[rR X], true⟩), (1, ⟨[ri W, .val (.int .i64 b)], true⟩), (0, ⟨[rR R], true⟩)] 4⟩ ?_ ?_
  · refine SW_of_vc Tryz.mixed _ _ _ (by kernel_rfl) ?_
    simp (disch := omega) only [Tryz.ntmps3, Tryz.results3, go_sem, rR]
    refine v1.callV 1 (viewL_cons_of view_rule viewL_nil_of) ?_
    simp (disch := omega) only [Tryz.ntmps3, Tryz.results3, go_sem, rR, bne_self_eq_false, beq_self_eq_true, Bool.not_true]
    refine v2.callV 1 (viewL_cons_of view_sS viewL_nil_of) ?_
    simp (disch := omega) only [Tryz.ntmps3, Tryz.results3, go_sem, rR, bne_self_eq_false, beq_self_eq_true, Bool.not_true]
    refine v3.callV 0 (viewL_cons_of (view_row) viewL_nil_of) ?_
    simp (disch := omega) only [Tryz.ntmps3, Tryz.results3, go_sem, rR, bne_self_eq_false, beq_self_eq_true, Bool.not_true]
    exact Wk.of (by simp only [go_sem, ↓List.forall_mem_cons, List.not_mem_nil, false_implies, implies_true, and_true, true_and, and_self, ri_eq, Int.natCast_add, Int.cast_ofNat_Int, rR]; try simp) rfl
  clear v1 v2 v3 p1 p2 p3 f3
  rcases Bool.eq_false_or_eq_true (isVR R) with q1 | q1
  · obtain rfl := hX q1
    rcases Bool.eq_false_or_eq_true (isSc W b) with q2 | q2
    · obtain ⟨rfl, rfl⟩ := hY q2
      rcases Bool.eq_false_or_eq_true (isFV f) with q3 | q3
      · obtain rfl := hZ q3
        refine SW_of_vc Tryz.mixed _ _ _ (by kernel_rfl) ?_
        simp (disch := omega) only [Tryz.ntmps3, Tryz.results3, go_sem, rR, q1, q2, q3, beq_self_eq_true]
        refine f1.callV 1 (viewL_cons_of view_rule viewL_nil_of) ?_
        simp (disch := omega) only [Tryz.ntmps3, Tryz.results3, go_sem, rR, q1, q2, q3, beq_self_eq_true]
        refine f2.callV 1 (viewL_cons_of view_sS viewL_nil_of) ?_
        simp (disch := omega) only [Tryz.ntmps3, Tryz.results3, go_sem, rR, q1, q2, q3, beq_self_eq_true]
        refine sf.callV 0 (viewL_cons_of (view_row) (viewL_cons_of (view_row) viewL_nil_of)) ?_
        simp (disch := omega) only [Tryz.ntmps3, Tryz.results3, go_sem, rR, q1, q2, q3, beq_self_eq_true]
        exact Fin.val rfl
      · clear hZ
        refine SW_of_vc Tryz.mixed _ _ _ (by kernel_rfl) ?_
        simp (disch := omega) only [Tryz.ntmps3, Tryz.results3, go_sem, rR, q1, q2, q3, beq_self_eq_true]
        refine f1.callV 1 (viewL_cons_of view_rule viewL_nil_of) ?_
        simp (disch := omega) only [Tryz.ntmps3, Tryz.results3, go_sem, rR, q1, q2, q3, beq_self_eq_true]
        refine f2.callV 1 (viewL_cons_of view_sS viewL_nil_of) ?_
        simp (disch := omega) only [Tryz.ntmps3, Tryz.results3, go_sem, rR, q1, q2, q3, beq_self_eq_true]
        exact Fin.val rfl
    · clear hY
      rcases Bool.eq_false_or_eq_true (isFV f) with q3 | q3
      · obtain rfl := hZ q3
        refine SW_of_vc Tryz.mixed _ _ _ (by kernel_rfl) ?_
        simp (disch := omega) only [Tryz.ntmps3, Tryz.results3, go_sem, rR, q1, q2, q3, beq_self_eq_true]
        refine f1.callV 1 (viewL_cons_of view_rule viewL_nil_of) ?_
        simp (disch := omega) only [Tryz.ntmps3, Tryz.results3, go_sem, rR, q1, q2, q3, beq_self_eq_true]
        refine sf.callV 0 (viewL_cons_of (view_row) (viewL_cons_of (view_row) viewL_nil_of)) ?_
        simp (disch := omega) only [Tryz.ntmps3, Tryz.results3, go_sem, rR, q1, q2, q3, beq_self_eq_true]
        exact Fin.val rfl
      · clear hZ
        refine SW_of_vc Tryz.mixed _ _ _ (by kernel_rfl) ?_
        simp (disch := omega) only [Tryz.ntmps3, Tryz.results3, go_sem, rR, q1, q2, q3, beq_self_eq_true]
        refine f1.callV 1 (viewL_cons_of view_rule viewL_nil_of) ?_
        simp (disch := omega) only [Tryz.ntmps3, Tryz.results3, go_sem, rR, q1, q2, q3, beq_self_eq_true]
        exact Fin.val rfl
  · clear hX
    rcases Bool.eq_false_or_eq_true (isSc W b) with q2 | q2
    · obtain ⟨rfl, rfl⟩ := hY q2
      rcases Bool.eq_false_or_eq_true (isFV f) with q3 | q3
      · obtain rfl := hZ q3
        refine SW_of_vc Tryz.mixed _ _ _ (by kernel_rfl) ?_
        simp (disch := omega) only [Tryz.ntmps3, Tryz.results3, go_sem, rR, q1, q2, q3, beq_self_eq_true]
        refine f2.callV 1 (viewL_cons_of view_sS viewL_nil_of) ?_
        simp (disch := omega) only [Tryz.ntmps3, Tryz.results3, go_sem, rR, q1, q2, q3, beq_self_eq_true]
        refine sf.callV 0 (viewL_cons_of (view_row) (viewL_cons_of (view_row) viewL_nil_of)) ?_
        simp (disch := omega) only [Tryz.ntmps3, Tryz.results3, go_sem, rR, q1, q2, q3, beq_self_eq_true]
        exact Fin.val rfl
      · clear hZ
        refine SW_of_vc Tryz.mixed _ _ _ (by kernel_rfl) ?_
        simp (disch := omega) only [Tryz.ntmps3, Tryz.results3, go_sem, rR, q1, q2, q3, beq_self_eq_true]
        refine f2.callV 1 (viewL_cons_of view_sS viewL_nil_of) ?_
        simp (disch := omega) only [Tryz.ntmps3, Tryz.results3, go_sem, rR, q1, q2, q3, beq_self_eq_true]
        exact Fin.val rfl
    · clear hY
      rcases Bool.eq_false_or_eq_true (isFV f) with q3 | q3
      · obtain rfl := hZ q3
        refine SW_of_vc Tryz.mixed _ _ _ (by kernel_rfl) ?_
        simp (disch := omega) only [Tryz.ntmps3, Tryz.results3, go_sem, rR, q1, q2, q3, beq_self_eq_true]
        refine sf.callV 0 (viewL_cons_of (view_row) (viewL_cons_of (view_row) viewL_nil_of)) ?_
        simp (disch := omega) only [Tryz.ntmps3, Tryz.results3, go_sem, rR, q1, q2, q3, beq_self_eq_true]
        exact Fin.val rfl
      · clear hZ
        refine SW_of_vc Tryz.mixed _ _ _ (by kernel_rfl) ?_
        simp (disch := omega) only [Tryz.ntmps3, Tryz.results3, go_sem, rR, q1, q2, q3, beq_self_eq_true]
        exact Fin.val rfl
end Go.Sh

/-
  From the row's condition to the two sentinels of strconv.
-/
namespace Go.Sh
set_option linter.unusedSimpArgs false
set_option linter.unusedVariables false
open Go Go.Proofs

theorem iface_of_trod {H : Type} {enc : TypeId × Value → H} {P : Program} {w : World} {base : Nat} {sp : Nat → Bool} {held : Bool} {fuel : Nat} {t : TypeId} {ms : Array (String × TypeId)} {cs : List Value} {d : DataW H} {p : List MemPlace} (hu : P.underlying t = some (.interface ms))
    (h : DataW.trod enc P w base sp held fuel t cs = some (d, p)) : ∃ v, cs = [v] ∧ ErrV v := by
  cases fuel with
  | zero => simp [DataW.trod] at h
  | succ fuel =>
    rcases cs with _ | ⟨v, _ | ⟨v2, r⟩⟩
    · simp [DataW.trod, hu] at h
    · cases v <;> first | exact ⟨_, rfl, .inl rfl⟩ | exact ⟨_, rfl, .inr ⟨_, _, rfl⟩⟩ | simp [DataW.trod, hu] at h
    · simp [DataW.trod, hu] at h
theorem Tryz.errSG : Tryz.prog.globalNamed "strconv.ErrSyntax" = some 2 := by kernel_rfl
theorem Tryz.errRG : Tryz.prog.globalNamed "strconv.ErrRange" = some 3 := by kernel_rfl
theorem Tryz.ifu : ∃ ms, Tryz.prog.underlying 86 = some (.interface ms) := isIface_t Tryz.ty.if86
theorem Tryz.errOf {W : World} {n : String} {d : DataW Unit} {g : Nat} (hg : Tryz.prog.globalNamed n = some g) (ht : (Tryz.prog.globals[g]?).map (·.type) = some 86) (h : Lib.VarReads Tryz.prog W n d) :
    (∃ (c : Array Value) (e : TypeId) (fr : Nat × Nat), W.heap[g]? = some (.cells c e fr) ∧ c.size = 1) ∧ ∃ v, W.cell? ⟨g, 0, none⟩ = some v ∧ ErrV v := by
  obtain ⟨g', t, cs, fuel, p, e1, e2, e3, e4⟩ := h
  obtain rfl := Option.some.inj (hg.symm.trans e1)
  obtain rfl := Option.some.inj (ht.symm.trans e2)
  obtain ⟨ms, hu⟩ := Tryz.ifu
  obtain ⟨v, hc, hv⟩ := iface_of_trod hu e4
  have hsz : cs.size = 1 := by
    have := congrArg List.length hc
    simpa using this
  have e5 := e3
  simp only [World.var?, hg, Option.bind_some] at e3
  split at e3
  · rename_i cs' e fr hh
    obtain rfl := Option.some.inj e3
    refine ⟨⟨_, _, _, hh, hsz⟩, v, ?_, hv⟩
    rw [World.var?_cell hg e5 0, ← Array.getElem?_toList, hc]; rfl
  · cases e3
end Go.Sh

/-
  From the row's condition and the world's shape to all the tables that FnRuleFormat reads.
-/
namespace Go.Sh
set_option linter.unusedSimpArgs false
set_option linter.unusedVariables false
open Go Go.Proofs

theorem str_of_data {s : ByteArray} {l : List UInt8} (h : l = s.data.toList) : s = ⟨l.toArray⟩ := by
  subst h; cases s; simp
/-- An array of strings that reads as these, cell for cell. -/
theorem cells_of_strs {H : Type} {enc : TypeId × Value → H} {P : Program} {w : World} {base : Nat} {sp : Nat → Bool} {held : Bool} {fuel : Nat} {t e : TypeId} {n : Nat} {cs : List Value} {ss : List (List UInt8)} {p : List MemPlace}
    (ht : P.underlying t = some (.array n e)) (he : P.underlying e = some .string) (hce : P.cellsOf e = 1) (hct : P.cellsOf t = n) (hn : ss.length = n)
    (h : DataW.trod enc P w base sp held fuel t cs = some (.agg (ss.map fun s => .lit (.string s)), p)) : ∀ i, i < n → cs[i]? = some (.string ⟨(ss.getD i []).toArray⟩) := by
  intro i hi
  obtain ⟨f2, d, q, h1, h2⟩ := Lib.array_elem ht h i hi
  rw [hce, Nat.mul_one] at h2
  obtain ⟨s, h3, h4, _⟩ := DataW.trod_string he h2
  have h5 : ss.getD i [] = s.data.toList := by
    have : (ss.map fun s => (DataW.lit (.string s) : DataW H))[i]? = some (.lit (.string s.data.toList)) := by rw [h1]; rw [(Prod.mk.inj h4).1]
    simp only [List.getElem?_map, Option.map_eq_some_iff, DataW.lit.injEq, Lit.string.injEq] at this
    obtain ⟨x, hx, rfl⟩ := this
    simp [hx]
  have h6 := congrArg (·[0]?) h3
  simp only [List.getElem?_take, List.getElem?_drop, Nat.add_zero, List.getElem?_cons_zero, if_pos (show 0 < 1 by omega)] at h6
  rw [h6, ← str_of_data h5]
theorem Tryz.namesG : Tryz.prog.globalNamed "loop.example/g01923/impl.featureNames" = some 0 := by kernel_rfl
theorem arr_len {H : Type} {enc : TypeId × Value → H} {P : Program} {w : World} {base : Nat} {sp : Nat → Bool} {held : Bool} {fuel : Nat} {t e : TypeId} {n : Nat} {cs : List Value} {x : DataW H × List MemPlace}
    (ht : P.underlying t = some (.array n e)) (hct : P.cellsOf t = n) (h : DataW.trod enc P w base sp held fuel t cs = some x) : cs.length = n := by
  cases fuel with
  | zero => simp [DataW.trod] at h
  | succ fuel =>
    simp only [DataW.trod, ht, hct] at h
    split at h
    · rename_i hl; simpa using hl
    · cases h
def namesL : List (List UInt8) := [[110, 97, 109, 101], [116, 111, 107, 101, 110, 115], [115, 111, 117, 110, 100], [99, 105, 116, 121], [121, 101, 97, 114], [112, 104, 111, 110, 101]]
theorem Tryz.namesOf {W : World} (h : Lib.VarReads Tryz.prog W "loop.example/g01923/impl.featureNames" Go.Proofs.YtkmckbjgffaieaaGreatDoor.Rows.laid_loop_example_g01923_impl_featureNames) :
    (∃ (c : Array Value) (e : TypeId) (fr : Nat × Nat), W.heap[0]? = some (.cells c e fr) ∧ c.size = 6) ∧ ∀ i x, namesL[i]? = some x → W.cell? ⟨0, i, none⟩ = some (.string ⟨x.toArray⟩) := by
  obtain ⟨g, t, cs, fuel, p, e1, e2, e3, e4⟩ := h
  obtain rfl := Option.some.inj (Tryz.namesG.symm.trans e1)
  obtain rfl := Option.some.inj ((show (Tryz.prog.globals[0]?).map (·.type) = some 73 by kernel_rfl).symm.trans e2)
  have hd : (Go.Proofs.YtkmckbjgffaieaaGreatDoor.Rows.laid_loop_example_g01923_impl_featureNames : DataW Unit) = .agg (namesL.map fun s => .lit (.string s)) := by kernel_rfl
  rw [hd] at e4
  have hc := cells_of_strs Tryz.underlying73 Tryz.underlying9 (by kernel_rfl) (by kernel_rfl) (by rfl) e4
  have hlen := arr_len Tryz.underlying73 (by kernel_rfl) e4
  have e5 := e3
  simp only [World.var?, Tryz.namesG, Option.bind_some] at e3
  split at e3
  · rename_i cs' e fr hh
    obtain rfl := Option.some.inj e3
    refine ⟨⟨_, _, _, hh, ?_⟩, fun i x hx => ?_⟩
    · simpa using hlen
    · have hi : i < 6 := (List.getElem?_eq_some_iff.1 hx).1
      rw [World.var?_cell Tryz.namesG e5 i, ← Array.getElem?_toList, hc i hi]
      simp [hx]
  · cases e3
theorem Tryz.maxLenOf {W : World} (h : W.ShapedOpen Tryz.prog) : (∃ (c : Array Value) (e : TypeId) (fr : Nat × Nat), W.heap[1]? = some (.cells c e fr) ∧ c.size = 1) ∧ ∃ m, W.cell? ⟨1, 0, none⟩ = some (.int .i64 m) := by
  refine ⟨?_, cell_of_shapedOpen_int (zero := #[.int .i64 0]) (t := 3) h (of_decide_eq_true (by kernel_rfl)) (by kernel_rfl) rfl (by kernel_rfl) (by kernel_rfl) Tryz.underlying3⟩
  obtain ⟨cs, h1, h2, _⟩ := h.1 1 #[.int .i64 0] 3 (of_decide_eq_true (by kernel_rfl)) (by kernel_rfl)
  exact ⟨cs, _, _, h1, h2⟩
theorem Tryz.tabOkR {W : World} {l : List (String × DataW Unit)} (hsh : W.ShapedOpen Tryz.prog) (h : laidMetH Tryz.prog l W) (hp : (l.all fun x => x.2.handleName?.isNone) = true) (hm : ("internal/strconv.uint64pow10", Go.Proofs.YtkmckbjgffaieaaGreatDoor.Rows.laid_internal_strconv_uint64pow10) ∈ l)
    (hes : ("strconv.ErrSyntax", Go.Proofs.YtkmckbjgffaieaaGreatDoor.Rows.laid_strconv_ErrSyntax) ∈ l) (her : ("strconv.ErrRange", Go.Proofs.YtkmckbjgffaieaaGreatDoor.Rows.laid_strconv_ErrRange) ∈ l)
    (hfn : ("loop.example/g01923/impl.featureNames", Go.Proofs.YtkmckbjgffaieaaGreatDoor.Rows.laid_loop_example_g01923_impl_featureNames) ∈ l) : TabOk (fun _ => False) W := by
  rw [MakeChecks.laidMetH_plain _ _ _ hp] at h
  have hs := Tryz.errOf Tryz.errSG (by kernel_rfl) (Lib.laidMet.reads h hes)
  have hr := Tryz.errOf Tryz.errRG (by kernel_rfl) (Lib.laidMet.reads h her)
  have hn := Tryz.namesOf (Lib.laidMet.reads h hfn)
  have hx := Tryz.maxLenOf hsh
  obtain ⟨g, t, cs, fuel, p, e1, e2, e3, e4⟩ := Lib.laidMet.reads h hm
  obtain rfl := Option.some.inj (Tryz.powG.symm.trans e1)
  obtain rfl := Option.some.inj ((show (Tryz.prog.globals[6]?).map (·.type) = some 144 by kernel_rfl).symm.trans e2)
  have hd : (Go.Proofs.YtkmckbjgffaieaaGreatDoor.Rows.laid_internal_strconv_uint64pow10 : DataW Unit) = Lib.tabData .u64 Lib.pow10Tab := by kernel_rfl
  rw [hd] at e4
  have hc := Lib.cells_of_tab Tryz.underlying144 Tryz.underlying125 (by kernel_rfl) (by kernel_rfl) e4
  have hsz : cs.size = 20 := by
    have := congrArg List.length hc
    simpa [Lib.pow10Tab] using this
  have e5 := e3
  simp only [World.var?, Tryz.powG, Option.bind_some] at e3
  split at e3
  · rename_i cs' e fr hh
    obtain rfl := Option.some.inj e3
    intro p hp
    simp only [TABS, List.mem_cons, List.not_mem_nil, or_false] at hp
    rcases hp with rfl | rfl | rfl | rfl | rfl
    · refine ⟨⟨_, _, _, hh, by simpa using hsz⟩, fun i Q hq => ?_⟩
      simp only [List.getElem?_map, Option.map_eq_some_iff] at hq
      obtain ⟨k, hk, rfl⟩ := hq
      have hi : i < 20 := by
        have := (List.getElem?_eq_some_iff.1 hk).1
        simpa using this
      obtain rfl : i = k := by simpa [hi] using hk
      refine ⟨_, ?_, rfl, fun h => h⟩
      rw [World.var?_cell Tryz.powG e5 i, ← Array.getElem?_toList, hc]
      simp [Lib.pow10Tab, hi]
    · obtain ⟨⟨c, e, fr, h1, h2⟩, v, h3, h4⟩ := hs
      refine ⟨⟨c, e, fr, h1, h2⟩, fun i Q hq => ?_⟩
      cases i with
      | zero => simp only [List.getElem?_cons_zero, Option.some.injEq] at hq; subst hq; exact ⟨v, h3, h4, fun h => h⟩
      | succ i => simp at hq
    · obtain ⟨⟨c, e, fr, h1, h2⟩, v, h3, h4⟩ := hr
      refine ⟨⟨c, e, fr, h1, h2⟩, fun i Q hq => ?_⟩
      cases i with
      | zero => simp only [List.getElem?_cons_zero, Option.some.injEq] at hq; subst hq; exact ⟨v, h3, h4, fun h => h⟩
      | succ i => simp at hq
    · obtain ⟨⟨c, e, fr, h1, h2⟩, m, h3⟩ := hx
      refine ⟨⟨c, e, fr, h1, h2⟩, fun i Q hq => ?_⟩
      cases i with
      | zero => simp only [List.getElem?_cons_zero, Option.some.injEq] at hq; subst hq; exact ⟨_, h3, ⟨m, rfl⟩, fun h => h⟩
      | succ i => simp at hq
    · obtain ⟨⟨c, e, fr, h1, h2⟩, h3⟩ := hn
      refine ⟨⟨c, e, fr, h1, h2⟩, fun i Q hq => ?_⟩
      rcases i with _ | _ | _ | _ | _ | _ | i
      all_goals first
        | (simp only [List.map_cons, List.getElem?_cons_zero, List.getElem?_cons_succ, Option.some.injEq] at hq; subst hq; exact ⟨_, h3 _ _ rfl, rfl, fun h => h⟩)
        | (simp at hq; done)
  · cases e3
section
variable {H : Type} {enc : TypeId × Value → H}
/-- The kit's way from a contract to a row's claim, with the shape of the world that is entered. -/
theorem retShaped {a : Assume} {C : Checked} {os : Os} {f : FuncId} {fn : Func} {s : ChangeSpec} {conds : List PathCond} {apart fresh handsOn again : Bool} {X : World → Array Value → Prop}
    (hX : ∀ (w w' : World) (args : Array Value), w.heap = w'.heap → X w args → X w' args)
    (own : ownKnob C.prog.godebug = none) (started : os.Started) (noInit : C.prog.inits.idxOf? f = none) (hfn : C.prog.funcs[f]? = some fn)
    (witness : ∃ (w : World) (tape : Tape) (i : Input), w.os = os ∧ (w.forCall tape i).Shaped C.prog ∧ i.vars = [] ∧ Input.okWide C.prog (w.forCall tape i) .any w.heap.size f i ∧
      ((s.pre enc C.prog fn conds apart (w.forCall tape i).memory i.args ∧ X (w.forCall tape i).memory i.args) ∧ sizedMet enc C.prog fn (OpenSpec.ofChange s) apart (w.forCall tape i).memory i.args) ∧ a.holds C.prog (lone (Frame.enter C.prog f i.args .normal) [] (w.forCall tape i)))
    (contract : ∀ (W : World) (base : Nat) (args : Array Value) (ds gs : List (DataW H)) (before : List MemPlace), W.ShapedOpen C.prog →
      (∀ (j : Nat) t v, fn.params[j]? = some t → args[j]? = some v → Value.okWide C.prog W .any base t v) →
      DataW.Whole enc C.prog fn.params.toList s.vars apart W args.toList ds gs before → X W args →
      Calls C.prog f args W fun e W' => ∃ v, e = .returned v ∧ s.post enc C.prog fn apart fresh handsOn again W args v W') :
    ReturnsInHanded a C os f .any (fun w args => (s.pre enc C.prog fn conds apart w args ∧ X w args) ∧ sizedMet enc C.prog fn (OpenSpec.ofChange s) apart w args) (s.post enc C.prog fn apart fresh handsOn again) := by
  refine returnsInHanded_of_calls own started noInit witness ?_
  intro w tape i _ hso _ hok hpre _
  obtain ⟨_, _, _, fn', hfn', _, _, _, _, hval⟩ := hok
  obtain rfl : fn' = fn := Option.some.inj (hfn'.symm.trans hfn)
  obtain ⟨⟨⟨ds, gs, before, hw, _⟩, hx⟩, _⟩ := hpre
  refine (contract (w.forCall tape i) w.heap.size i.args ds gs before hso hval (DataW.Whole.of_heap (w' := w.forCall tape i) (by rfl) hw) (hX _ _ _ (by rfl) hx)).mono fun e W' ⟨v, he, hp⟩ => ?_
  subst he
  exact ChangeSpec.post_blind hp
end
end Go.Sh

/-
  From the values that came in to the shadow's: bytes.
-/
namespace Go.Sh
set_option linter.unusedSimpArgs false
set_option linter.unusedVariables false
open Go Go.RowKit
open Go.ChangeShapes Go.WideShapes

theorem crel_bys {O : Nat → Prop} {w : World} : ∀ (L : List Int) (x : Addr), (L ≠ [] → ¬ O x.block) → (∀ i, i < L.length → w.cell? (x.add i) = some (.int .u8 (L.getD i 0))) → CRel O w (bys L) x
  | [], x, _, _ => by simp only [bys, List.map_nil, CRel]
  | n :: L, x, hO, h => by
    have h0 := h 0 (by simp)
    rw [Addr.add_zero'] at h0
    have hs : x.spot = none := World.cell?_spot h0
    have e : bys (n :: L) = .val (.int .u8 n) :: bys L := rfl
    rw [e]
    simp only [CRel]
    refine ⟨hs, hO (by simp), ⟨_, h0, by simp [VRel]⟩, crel_bys L ⟨x.block, x.off + 1, none⟩ (fun _ => hO (by simp)) (fun i hi => ?_)⟩
    have := h (i + 1) (by simpa using hi)
    have e2 : (⟨x.block, x.off + 1, none⟩ : Addr).add i = x.add (i + 1) := by
      rw [Addr.add_lit, Addr.add_succ']
      simp [Nat.add_assoc, Nat.add_comm 1 i]
    rw [e2, this]
    simp
theorem isRow_bys {w : World} {a : Option Addr} {len cap : Nat} {zs : List Int} (h : IsRow .u8 w a len cap zs) : VRel (fun _ => False) w noj (rby (zs.take len)) (.slice a len cap) := by
  rcases h with ⟨rfl, rfl, rfl, rfl⟩ | ⟨x, rfl, h1, h2, h3, h4, h5⟩
  · simp only [rby, VRel]
    exact ⟨none, 0, rfl, Nat.le_refl _, by simp, .inl (by simp [bys])⟩
  · have hl : (zs.take len).length = len := by simp; omega
    simp only [rby, VRel]
    refine ⟨some x, cap, by rw [hl], by omega, by simp, .inr ⟨x, rfl, crel_bys _ x (fun _ h => h) (fun i hi => ?_)⟩⟩
    have hi' : i < len := by rw [hl] at hi; exact hi
    rw [h4 i (by omega)]
    congr 2
    simp [List.getD, hi']
theorem cell_bys {Hh : Type} {enc : TypeId × Value → Hh} {P : Program} {w : World} {held : Bool} {t e : TypeId} {fuel : Nat} {v : Value} {x : DataW Hh × List MemPlace} (ht : P.underlying t = some (.slice e)) (he : P.underlying e = some (.int .u8)) (hc : P.cellsOf e = 1)
    (h : DataW.trod enc P w 0 (fun _ => true) held fuel t [v] = some x) : ∃ L : List Int, VRel (fun _ => False) w noj (rby L) v ∧ L.length ≤ maxLen := by
  rcases open_ints ht he hc h with ⟨hcs, _⟩ | ⟨a, l, c, zs, hcs, _, hl, hm, hz, _, hcell, hwz⟩
  · simp at hcs
    subst hcs
    exact ⟨[], isRow_bys (zs := []) (.inl ⟨rfl, rfl, rfl, rfl⟩), by simp⟩
  · simp at hcs
    subst hcs
    exact ⟨zs.take l, isRow_bys (.inr ⟨_, rfl, hl, hm, by simpa using hz, hcell, hwz⟩), by simp; omega⟩
end Go.Sh
