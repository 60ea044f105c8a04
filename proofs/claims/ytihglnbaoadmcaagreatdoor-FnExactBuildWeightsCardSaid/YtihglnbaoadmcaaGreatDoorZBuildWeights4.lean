/-
  Texts put together: ShP, WM, RF2, WL, WP, AT1, AT2, WF, WG, WH, W5, DA2, MH1, WI. What each proves stands at its own head, with its conditions.
-/
import Derived.Test.YtihglnbaoadmcaaGreatDoorZBuildWeights3
import Derived.Sort.OwnSorted
import Derived.Lib.ConvBytes
import Derived.Lib.AtoiErrMem

/-
  Regions that draw their order, further: operations that allocate, in more orders than one.
-/
namespace Go.Sh
set_option linter.unusedSimpArgs false
set_option linter.unusedVariables false
open Go Go.RowKit
variable {P : Program}

theorem legS_uniq {ops : Array Oper} {S : Heap → Prop} {d : Bool} {o : Oper} {σ : Slots} {H : Heap} {Q Q' : SV → Heap → Prop} (hu : userCall o.op = none) (hS : S H) (h : legS P ops S d o σ H Q) (h' : legS P ops S d o σ H Q') : ∀ r H1, Q r H1 ↔ Q' r H1 := by
  cases d with
  | true =>
    simp only [legS, if_true] at h h'
    rcases h.2 with ⟨g, a, h1, h2⟩ | ⟨g, h2⟩
    · rcases h'.2 with ⟨g', b, k1, k2⟩ | ⟨g', _⟩
      · have := (h1 H hS).symm.trans (k1 H hS)
        have e : a = b := by simpa using this
        intro r H1; rw [h2, k2, e]
      · rw [g] at g'; simp at g'
    · rcases h'.2 with ⟨g', _⟩ | ⟨g', k2⟩
      · rw [g] at g'; simp at g'
      · intro r H1; rw [h2, k2]
  | false =>
    simp only [legS, Bool.false_eq_true, if_false, leg, hu] at h h'
    rcases h.2 with ⟨g, a, Ha, h1, h2⟩ | ⟨g, h2⟩
    · rcases h'.2 with ⟨g', b, Hb, k1, k2⟩ | ⟨g', _⟩
      · have := h1.symm.trans k1
        simp only [Option.some.injEq, Prod.mk.injEq] at this
        intro r H1; rw [h2, k2, this.1, this.2]
      · rw [g] at g'; simp at g'
    · rcases h'.2 with ⟨g', _⟩ | ⟨g', k2⟩
      · rw [g] at g'; simp at g'
      · intro r H1; rw [h2, k2]
theorem stepS_fam {n : Nat} {ops : Array Oper} {S : Heap → Prop} {d : Bool} {o : Oper} {s : St} {ι : Type} {F : ι → Prop} {A : ι → St → Prop} (hu : userCall o.op = none) (hS : S s.H) {l0 : ι} (h0 : F l0) (h : ∀ l, F l → stepS P n ops S d o s (A l)) :
    stepS P n ops S d o s (fun s' => ∀ l, F l → A l s') := by
  obtain ⟨hd, Q, hl, hk⟩ := h l0 h0
  refine ⟨hd, Q, hl, fun r H' hq => ⟨(hk r H' hq).1, fun l hf => ?_⟩⟩
  obtain ⟨_, Q', hl', hk'⟩ := h l hf
  exact (hk' r H' ((legS_uniq hu hS hl hl' r H').1 hq)).2

def pOk (D : List Nat) (ops : Array Oper) (k i : Nat) : Bool := match ops[k]?, ops[i]? with
  | some x, some y => waitsT ops 6 y k || pairOkS D ops k i x y
  | _, _ => false
structure Fam (D : List Nat) (ops : Array Oper) (hv : Nat → Bool) (Ls : List (List Nat)) : Prop where
  edge : ∀ (i : Nat) (y : Oper), ops[i]? = some y → ∀ e ∈ y.after, Region.binds .any e = true → e.on < i
  user : ∀ (i : Nat) (y : Oper), ops[i]? = some y → userCall y.op = none
  nd : ∀ l ∈ Ls, l.Nodup
  bd : ∀ l ∈ Ls, ∀ i ∈ l, i < ops.size
  all : ∀ l ∈ Ls, ∀ i, i < ops.size → i ∈ l
  pw : ∀ l ∈ Ls, l.Pairwise (fun k i => (hv k = true ∧ hv i = true) ∨ pOk D ops k i = true)
  ext : ∀ l ∈ Ls, ∀ m i, i < ops.size → hv i = true → i ∉ (l.filter hv).take m → (∃ k, k < ops.size ∧ hv k = true ∧ k ∉ (l.filter hv).take m ∧ ∃ y : Oper, ops[i]? = some y ∧ waitsT ops 6 y k = true) ∨ ∃ l' ∈ Ls, ((l.filter hv).take m ++ [i]) <+: l'.filter hv

def unl (listed : Array Bool) (i : Nat) : Bool := !listed.getD i true
theorem unl_set {listed : Array Bool} {i : Nat} (hi : i < listed.size) (a : Nat) : unl (listed.setIfInBounds i true) a = (unl listed a && decide (a ≠ i)) := by
  unfold unl
  by_cases h : a = i
  · subst h; simp [Array.getD_eq_getD_getElem?, hi]
  · rw [Array.getD_eq_getD_getElem?, Array.getElem?_setIfInBounds_ne (Ne.symm h), ← Array.getD_eq_getD_getElem?]; simp [h]
theorem filter_set {listed : Array Bool} {i : Nat} (hi : i < listed.size) {l l1 l2 : List Nat} (hnd : l.Nodup) (h : l.filter (unl listed) = l1 ++ i :: l2) : l.filter (unl (listed.setIfInBounds i true)) = l1 ++ l2 ∧ i ∉ l1 ∧ i ∉ l2 := by
  have hn : (l1 ++ i :: l2).Nodup := by rw [← h]; exact hnd.filter _
  rw [List.nodup_append] at hn
  obtain ⟨_, n2, n3⟩ := hn
  have i1 : i ∉ l1 := fun hm => n3 i hm i (by simp) rfl
  have i2 : i ∉ l2 := (List.nodup_cons.1 n2).1
  refine ⟨?_, i1, i2⟩
  have e : (fun a => unl (listed.setIfInBounds i true) a) = fun a => (unl listed a && decide (a ≠ i)) := funext fun a => unl_set hi a
  have : l.filter (unl (listed.setIfInBounds i true)) = (l.filter (unl listed)).filter (fun a => decide (a ≠ i)) := by
    rw [List.filter_filter]
    congr 1
    funext a; rw [unl_set hi, Bool.and_comm]
  rw [this, h, List.filter_append, List.filter_cons]
  simp only [ne_eq, not_true_eq_false, decide_false, Bool.false_eq_true, if_false]
  rw [List.filter_eq_self.2 (fun a ha => by simp; rintro rfl; exact i1 ha), List.filter_eq_self.2 (fun a ha => by simp; rintro rfl; exact i2 ha)]
theorem left_nil_filter {n : Nat} {listed : Array Bool} (hs : listed.size = n) (h : left n listed = []) (l : List Nat) : l.filter (unl listed) = [] := by
  rw [List.filter_eq_nil_iff]
  intro a _
  by_cases ha : a < n
  · have : a ∉ left n listed := by rw [h]; simp
    intro hu
    exact this (List.mem_filter.2 ⟨by simpa using ha, hu⟩)
  · simp [unl, Array.getD_eq_getD_getElem?, Array.getElem?_eq_none (by omega : listed.size ≤ a)]

theorem wpAny_of_fam {n : Nat} {ops : Array Oper} {S : Heap → Prop} {D : List Nat} {Q : Exit → Act → World → Prop} {K : St → Prop} {hv : Nat → Bool} {Ls : List (List Nat)} (hok : Fam D ops hv Ls) : ∀ (fuel : Nat) (listed : Array Bool) (p : List Nat) (s : St) (j : JMap) (a : Act) (w : World), listed.size = ops.size → ClosedL ops listed →
    (left ops.size listed).length ≤ fuel → S s.H → (∃ l ∈ Ls, p <+: l.filter hv) → (∀ i, i < ops.size → hv i = true → (listed.getD i true = true ↔ i ∈ p)) →
    (∀ l, l ∈ Ls ∧ p <+: l.filter hv → opsS P n ops S D (l.filter (unl listed)) s K) → SAll n j s a w → (∀ j' s' a' w', SAll n j' s' a' w' → Nx j s.H w j' s'.H w' → K s' → Q .normal a' w') → wpAny P .any ops Q fuel listed a w := by
  have ready_nil : ∀ listed : Array Bool, listed.size = ops.size → Region.ready .any ops listed = [] → left ops.size listed = [] := by
    intro listed hs hr
    cases hl : left ops.size listed with
    | nil => rfl
    | cons i rest =>
      exfalso
      have hmem : i ∈ left ops.size listed := by rw [hl]; simp
      have hi := List.mem_filter.1 hmem
      have hlt : i < ops.size := by simpa using hi.1
      have hsmall : ∀ k, k < i → listed.getD k true = true := by
        intro k hk
        cases hk' : listed.getD k true with
        | true => rfl
        | false =>
          exfalso
          have hkm : k ∈ left ops.size listed := List.mem_filter.2 ⟨by simp; omega, by simp [hk']⟩
          have hsorted : (left ops.size listed).Pairwise (· < ·) := (List.pairwise_lt_range).filter _
          rw [hl] at hsorted hkm
          rcases List.mem_cons.1 hkm with rfl | h
          · omega
          · have := (List.pairwise_cons.1 hsorted).1 k h
            omega
      have : i ∈ Region.ready .any ops listed := by
        refine List.mem_filter.2 ⟨by simpa using hlt, ?_⟩
        rw [Array.getElem?_eq_getElem hlt]
        simp only [Option.map_some, Option.getD_some, Bool.and_eq_true]
        refine ⟨hi.2, Array.all_eq_true.2 (fun m hm => ?_)⟩
        cases hb : Region.binds .any (ops[i]).after[m] with
        | false => simp
        | true =>
          have h1 := hok.edge i ops[i] (Array.getElem?_eq_getElem hlt) _ (Array.getElem_mem hm) hb
          have h2 := hsmall _ h1
          have h3 : listed.getD ((ops[i]).after[m]).on false = true := by
            rw [Array.getD_eq_getD_getElem?, Array.getElem?_eq_getElem (by omega)] at h2 ⊢
            simpa using h2
          simp [h3]
      rw [hr] at this
      simp at this
  intro fuel
  induction fuel with
  | zero =>
    intro listed p s j a w hs hcl hf hS hne hp hrun ha hq
    have hl : left ops.size listed = [] := by simpa using hf
    obtain ⟨l, hlm, hlp⟩ := hne
    have hrun := hrun l ⟨hlm, hlp⟩
    rw [left_nil_filter hs hl] at hrun
    simp only [opsS] at hrun
    refine ⟨?_, hq j s a w ha (Nx.refl _ _ _) hrun⟩
    cases hr : Region.ready .any ops listed with
    | nil => rfl
    | cons i rest =>
      exfalso
      have hm : i ∈ Region.ready .any ops listed := by rw [hr]; simp
      have hm := List.mem_filter.1 hm
      simp only [Bool.and_eq_true] at hm
      have : i ∈ left ops.size listed := List.mem_filter.2 ⟨hm.1, hm.2.1⟩
      rw [hl] at this; simp at this
  | succ fuel ih =>
    intro listed p s j a w hs hcl hf hS hne hp hrun ha hq
    refine ⟨fun hr => ?_, fun i hi => ?_⟩
    · obtain ⟨l, hlm, hlp⟩ := hne
      have hrun := hrun l ⟨hlm, hlp⟩
      rw [left_nil_filter hs (ready_nil listed hs hr)] at hrun
      simp only [opsS] at hrun
      exact hq j s a w ha (Nx.refl _ _ _) hrun
    · have hm := List.mem_filter.1 hi
      simp only [Bool.and_eq_true] at hm
      have hlt : i < ops.size := by simpa using hm.1
      have hno : listed.getD i true = false := by simpa using hm.2.1
      have hy : ops[i]? = some ops[i] := Array.getElem?_eq_getElem hlt
      have hu := hok.user i _ hy
      have hdir : ∀ e ∈ (ops[i]).after, Region.binds .any e = true → listed.getD e.on false = true := by
        intro e he hb
        have hall := hm.2.2
        rw [hy] at hall
        simp only [Option.map_some, Option.getD_some] at hall
        obtain ⟨m, hm', rfl⟩ := Array.mem_iff_getElem.1 he
        have := Array.all_eq_true.1 hall m hm'
        rw [hb] at this
        simpa only [Bool.not_true, Bool.false_or] using this
      have hset : ∀ m, listed.getD m false = true → (listed.setIfInBounds i true).getD m false = true := by
        intro m h
        by_cases hmi : m = i
        · subst hmi
          simp [Array.getD_eq_getD_getElem?, hs, hlt]
        · rw [Array.getD_eq_getD_getElem?] at h ⊢
          rw [Array.getElem?_setIfInBounds_ne (Ne.symm hmi)]
          exact h
      have hcl' : ClosedL ops (listed.setIfInBounds i true) := by
        intro m y hmy hlm e he hb
        by_cases hmi : m = i
        · subst hmi
          rw [hy] at hmy
          simp at hmy
          subst hmy
          exact hset _ (hdir e he hb)
        · refine hset _ (hcl m y hmy ?_ e he hb)
          rw [Array.getD_eq_getD_getElem?] at hlm ⊢
          rwa [Array.getElem?_setIfInBounds_ne (Ne.symm hmi)] at hlm
      have hwait : ∀ k, k < ops.size → unl listed k = true → waitsT ops 6 ops[i] k = true → False := fun k hk hul hw => by
        have := waitsT_listed hcl 6 _ hdir hw
        simp only [unl, Bool.not_eq_true'] at hul
        rw [Array.getD_eq_getD_getElem?, Array.getElem?_eq_getElem (by omega)] at this hul
        simp at this hul
        rw [this] at hul; simp at hul
      have hsz : i < listed.size := by omega
      -- the lists that go on
      obtain ⟨p', hp', hne', hmov⟩ : ∃ p', (∀ k, k < ops.size → hv k = true → ((listed.setIfInBounds i true).getD k true = true ↔ k ∈ p')) ∧ (∃ l ∈ Ls, p' <+: l.filter hv) ∧
          ∀ l, l ∈ Ls ∧ p' <+: l.filter hv → (p <+: l.filter hv) ∧ ∀ l1 l2, l.filter (unl listed) = l1 ++ i :: l2 → hv i = true → ∀ k ∈ l1, hv k = false := by
        have hlk : ∀ k, (listed.setIfInBounds i true).getD k true = true ↔ (listed.getD k true = true ∨ k = i) := fun k => by
          have := unl_set hsz k
          simp only [unl] at this
          by_cases e : k = i
          · subst e; simp at this; simp [this]
          · simp only [e, ne_eq, not_false_eq_true, decide_true, Bool.and_true, Bool.not_inj_iff] at this
            rw [this]; simp [e]
        by_cases hvi : hv i = true
        · have hip : i ∉ p := fun h => by
            have := (hp i hlt hvi).2 h
            rw [hno] at this; cases this
          obtain ⟨l, hlm, hlp⟩ := hne
          have hpt : (l.filter hv).take p.length = p := (List.prefix_iff_eq_take.1 hlp).symm
          have hx := hok.ext l hlm p.length i hlt hvi (by rw [hpt]; exact hip)
          rw [hpt] at hx
          rcases hx with ⟨k, hk1, hk2, hk3, y, hy', hk4⟩ | ⟨l', hl', hpre⟩
          · exfalso
            rw [hy] at hy'
            simp at hy'; subst hy'
            refine hwait k hk1 ?_ hk4
            have : ¬ listed.getD k true = true := fun h => hk3 ((hp k hk1 hk2).1 h)
            simp only [unl]; simpa using this
          · refine ⟨p ++ [i], fun k hk hvk => ?_, ⟨l', hl', hpre⟩, fun l ⟨hl, hpl⟩ => ⟨(List.prefix_append p [i]).trans hpl, fun l1 l2 he _ k hk => ?_⟩⟩
            · rw [hlk, List.mem_append, List.mem_singleton, hp k hk hvk]
            · cases hvk : hv k with
              | false => rfl
              | true =>
                exfalso
                obtain ⟨q, hq'⟩ := hpl
                have e1 : (l.filter (unl listed)).filter hv = (l.filter hv).filter (unl listed) := by
                  rw [List.filter_filter, List.filter_filter]; congr 1; funext a; rw [Bool.and_comm]
                obtain ⟨_, i1, i2⟩ := filter_set hsz (hok.nd l hl) he
                have hpn : p.filter (unl listed) = [] := by
                  rw [List.filter_eq_nil_iff]
                  intro b hb
                  have hbl : b ∈ l.filter hv := by rw [← hq']; simp [hb]
                  by_cases hbs : b < ops.size
                  · have := (hp b hbs (List.mem_filter.1 hbl).2).2 hb
                    simp only [unl]; rw [this]; simp
                  · simp [unl, Array.getD_eq_getD_getElem?, Array.getElem?_eq_none (by omega : listed.size ≤ b)]
                have hui : unl listed i = true := by simp [unl, hno]
                rw [he, ← hq', List.filter_append, List.filter_append, List.filter_append, hpn, List.filter_cons, List.filter_cons, if_pos hvi, if_pos hui] at e1
                simp only [List.filter_nil, List.nil_append, List.cons_append] at e1
                have hkl : k ∈ l1.filter hv := List.mem_filter.2 ⟨hk, hvk⟩
                cases hc : l1.filter hv with
                | nil => rw [hc] at hkl; simp at hkl
                | cons b bs =>
                  rw [hc] at e1
                  simp only [List.cons_append, List.cons.injEq] at e1
                  have : b ∈ l1.filter hv := by rw [hc]; simp
                  rw [e1.1] at this
                  exact i1 (List.mem_filter.1 this).1
        · refine ⟨p, fun k hk hvk => ?_, hne, fun l ⟨hl, hpl⟩ => ⟨hpl, fun l1 l2 he h => absurd h hvi⟩⟩
          rw [hlk, ← hp k hk hvk]
          constructor
          · rintro (h | rfl)
            · exact h
            · exact absurd hvk hvi
          · exact .inl
      have hstep : ∀ l, l ∈ Ls ∧ p' <+: l.filter hv → stepS P n ops S (hasD D i) ops[i] s (fun s' => opsS P n ops S D (l.filter (unl (listed.setIfInBounds i true))) s' K) := by
        intro l hl
        obtain ⟨hpl, hm2⟩ := hmov l hl
        have hr := hrun l ⟨hl.1, hpl⟩
        have him : i ∈ l.filter (unl listed) := List.mem_filter.2 ⟨hok.all l hl.1 i hlt, by simp [unl, hno]⟩
        obtain ⟨l1, l2, he⟩ := List.append_of_mem him
        obtain ⟨e2, i1, i2⟩ := filter_set hsz (hok.nd l hl.1) he
        have hpw : (l1 ++ i :: l2).Pairwise (fun k i => (hv k = true ∧ hv i = true) ∨ pOk D ops k i = true) := by rw [← he]; exact (hok.pw l hl.1).filter _
        rw [he] at hr
        have hfront := opsS_front hy l1 l2 s hS (fun k hk x hx => by
          have h1 := (List.pairwise_append.1 hpw).2.2 k hk i (by simp)
          have hku : unl listed k = true := by
            have : k ∈ l.filter (unl listed) := by rw [he]; simp [hk]
            exact (List.mem_filter.1 this).2
          have hks : k < ops.size := by
            rcases Nat.lt_or_ge k ops.size with h | h
            · exact h
            · rw [Array.getElem?_eq_none h] at hx; simp at hx
          rcases h1 with ⟨h1, h2⟩ | h1
          · have := hm2 l1 l2 he h2 k hk
            rw [h1] at this; cases this
          · unfold pOk at h1
            rw [hx, hy] at h1
            simp only [Bool.or_eq_true] at h1
            rcases h1 with h1 | h1
            · exact (hwait k hks hku h1).elim
            · exact h1) hr
        simp only [opsS] at hfront
        obtain ⟨y, hy', hst⟩ := hfront
        rw [hy] at hy'
        simp at hy'; subst hy'
        rw [e2]
        exact hst
      obtain ⟨l0, hl0, hl0p⟩ := hne'
      have hall := stepS_fam (F := fun l => l ∈ Ls ∧ p' <+: l.filter hv) (A := fun l s' => opsS P n ops S D (l.filter (unl (listed.setIfInBounds i true))) s' K) hu hS (l0 := l0) ⟨hl0, hl0p⟩ hstep
      refine stepS_real hS hy hall ha (fun j' s1 a' w' h1 h2 hS1 hrest => ?_)
      refine ih (listed.setIfInBounds i true) p' s1 j' a' w' (by simpa using hs) hcl' ?_ hS1 ⟨l0, hl0, hl0p⟩ hp' hrest h1 (fun j'' s'' a'' w'' g1 g2 g3 => hq j'' s'' a'' w'' g1 (h2.trans g2) g3)
      obtain ⟨l1, l2, e1, e2, e3⟩ := left_split hs hlt hno
      rw [e2]
      rw [e1] at hf
      simp at hf ⊢
      omega

def pwB (R : Nat → Nat → Bool) : List Nat → Bool
  | [] => true
  | k :: l => l.all (R k) && pwB R l
theorem pwB_of {R : Nat → Nat → Bool} : ∀ {l : List Nat}, pwB R l = true → l.Pairwise (fun a b => R a b = true)
  | [], _ => .nil
  | k :: l, h => by
    simp only [pwB, Bool.and_eq_true, List.all_eq_true] at h
    exact .cons h.1 (pwB_of h.2)
def wt (ops : Array Oper) (i k : Nat) : Bool := match ops[i]? with | some y => waitsT ops 6 y k | none => false
/-- Orders enough: all orders of the named operations that can come, one list for each; all others change places. -/
def famOk (D : List Nat) (ops : Array Oper) (hv : List Nat) (Ls : List (List Nat)) : Bool :=
  (List.range ops.size).all (fun i => match ops[i]? with | some y => (y.after.all fun e => !Region.binds .any e || decide (e.on < i)) && (userCall y.op).isNone | none => true) &&
  Ls.all (fun l => pwB (fun a b => decide (a ≠ b)) l && l.all (fun i => decide (i < ops.size)) && (List.range ops.size).all (fun i => l.contains i) && pwB (fun k i => (hv.contains k && hv.contains i) || pOk D ops k i) l) &&
  Ls.all (fun l => (List.range ((l.filter hv.contains).length + 1)).all fun m => hv.all fun i => ((l.filter hv.contains).take m).contains i || hv.any (fun k => decide (k < ops.size) && (!((l.filter hv.contains).take m).contains k && wt ops i k)) || Ls.any fun l' => (((l.filter hv.contains).take m) ++ [i]).isPrefixOf (l'.filter hv.contains))
theorem fam_of {D : List Nat} {ops : Array Oper} {hv : List Nat} {Ls : List (List Nat)} (h : famOk D ops hv Ls = true) : Fam D ops hv.contains Ls := by
  simp only [famOk, Bool.and_eq_true] at h
  obtain ⟨⟨h1, h2⟩, h3⟩ := h
  have one : ∀ (i : Nat) (y : Oper), ops[i]? = some y → (∀ e ∈ y.after, Region.binds .any e = true → e.on < i) ∧ userCall y.op = none := by
    intro i y hy
    have hi : i < ops.size := by
      rcases Nat.lt_or_ge i ops.size with h | h
      · exact h
      · rw [Array.getElem?_eq_none h] at hy; simp at hy
    have := List.all_eq_true.1 h1 i (by simpa using hi)
    rw [hy] at this
    simp only [Bool.and_eq_true] at this
    refine ⟨fun e he hb => ?_, by simpa using this.2⟩
    have h1 := Array.all_eq_true.1 this.1
    obtain ⟨m, hm, rfl⟩ := Array.mem_iff_getElem.1 he
    have := h1 m hm
    simpa [hb] using this
  have two : ∀ l ∈ Ls, _ := List.all_eq_true.1 h2
  refine ⟨fun i y hy => (one i y hy).1, fun i y hy => (one i y hy).2, fun l hl => ?_, fun l hl i hi => ?_, fun l hl i hi => ?_, fun l hl => ?_, fun l hl m i hi hvi hnot => ?_⟩
  · have := two l hl
    simp only [Bool.and_eq_true] at this
    exact (pwB_of this.1.1.1).imp (fun h => by simpa using h)
  · have := two l hl
    simp only [Bool.and_eq_true] at this
    have := List.all_eq_true.1 this.1.1.2 i hi
    simpa using this
  · have := two l hl
    simp only [Bool.and_eq_true] at this
    have := List.all_eq_true.1 this.1.2 i (by simpa using hi)
    simpa using this
  · have := two l hl
    simp only [Bool.and_eq_true] at this
    exact (pwB_of this.2).imp (fun h => by simpa only [Bool.or_eq_true, Bool.and_eq_true] using h)
  · have key : ∃ m', (l.filter hv.contains).take m = (l.filter hv.contains).take m' ∧ m' < (l.filter hv.contains).length + 1 := by
      rcases Nat.lt_or_ge m ((l.filter hv.contains).length + 1) with h | h
      · exact ⟨m, rfl, h⟩
      · exact ⟨(l.filter hv.contains).length, by rw [List.take_of_length_le (by omega), List.take_length], by omega⟩
    obtain ⟨m', e, hm'⟩ := key
    rw [e] at hnot ⊢
    have := List.all_eq_true.1 h3 l hl
    have := List.all_eq_true.1 this m' (by simpa using hm')
    have := List.all_eq_true.1 this i (by simpa using hvi)
    simp only [Bool.or_eq_true] at this
    rcases this with (this | this) | this
    · exact absurd (by simpa using this) hnot
    · obtain ⟨k, hk, hk2⟩ := List.any_eq_true.1 this
      simp only [Bool.and_eq_true, decide_eq_true_eq, Bool.not_eq_true'] at hk2
      obtain ⟨k1, k2, k3⟩ := hk2
      refine .inl ⟨k, k1, by simpa using hk, fun hm => ?_, ?_⟩
      · rw [List.contains_iff_mem.2 hm] at k2; cases k2
      · unfold wt at k3
        split at k3
        · exact ⟨_, by assumption, k3⟩
        · cases k3
    · obtain ⟨l', hl', hp⟩ := List.any_eq_true.1 this
      exact .inr ⟨l', hl', List.isPrefixOf_iff_prefix.1 hp⟩

/-! ### As one steps through it -/
def atN : List Oper → Nat → (Oper → Prop) → Prop
  | [], _, _ => False
  | o :: _, 0, f => f o
  | _ :: l, k + 1, f => atN l k f
theorem atN_zero (o : Oper) (l : List Oper) (f : Oper → Prop) : atN (o :: l) 0 f = f o := rfl
theorem atN_succ (o : Oper) (l : List Oper) (k : Nat) (f : Oper → Prop) : atN (o :: l) (k + 1) f = atN l k f := rfl
theorem atN_of : ∀ {l : List Oper} {k : Nat} {f : Oper → Prop}, atN l k f → ∃ o, l[k]? = some o ∧ f o
  | [], _, _, h => h.elim
  | o :: _, 0, _, h => ⟨o, rfl, h⟩
  | _ :: l, k + 1, _, h => by
    obtain ⟨o, h1, h2⟩ := atN_of (l := l) h
    exact ⟨o, by simpa using h1, h2⟩
def opsL (P : Program) (n : Nat) (l : List Oper) (S : Heap → Prop) (D : List Nat) : List Nat → St → (St → Prop) → Prop
  | [], s, K => K s
  | i :: is, s, K => atN l i (fun o => opsNS P n l.toArray S D i [o] s (fun s' => opsL P n l S D is s' K))
theorem opsL_nil (n : Nat) (l : List Oper) (S : Heap → Prop) (D : List Nat) (s : St) (K : St → Prop) : opsL P n l S D [] s K = K s := rfl
theorem opsL_cons (n : Nat) (l : List Oper) (S : Heap → Prop) (D : List Nat) (i : Nat) (is : List Nat) (s : St) (K : St → Prop) : opsL P n l S D (i :: is) s K = atN l i (fun o => opsNS P n l.toArray S D i [o] s (fun s' => opsL P n l S D is s' K)) := rfl
theorem opsNS_one {n : Nat} {ops : Array Oper} {S : Heap → Prop} {D : List Nat} {K : St → Prop} {o : Oper} {i : Nat} {s : St} (hS : S s.H) (h : opsNS P n ops S D i [o] s K) : stepS P n ops S (hasD D i) o s K := by
  simp only [opsNS] at h
  split at h
  · rename_i hg
    split at h
    · rename_i hd
      split at h
      · rename_i t x hop
        obtain ⟨hdk, r, h1, h2⟩ := h
        rw [hd]
        refine ⟨hdk, fun r1 H1 => r1 = r ∧ H1 = s.H, ?_, ?_⟩
        · simp only [legS, if_true]
          refine ⟨⟨r, s.H, rfl, rfl⟩, .inl ⟨by simp [gst, hg], r, fun H2 h3 => ?_, fun _ _ => Iff.rfl⟩⟩
          have h4 : sload P H2 t (sval s.σ x) = some r := h1 H2 h3
          rw [hop]
          simp only [sop, h4]
        · rintro _ _ ⟨rfl, rfl⟩
          exact ⟨hS, h2⟩
      · rename_i t x lo hi mx hop
        obtain ⟨hdk, r, h1, h2⟩ := h
        rw [hd]
        refine ⟨hdk, fun r1 H1 => r1 = r ∧ H1 = s.H, ?_, ?_⟩
        · simp only [legS, if_true]
          refine ⟨⟨r, s.H, rfl, rfl⟩, .inl ⟨by simp [gst, hg], r, fun H2 h3 => ?_, fun _ _ => Iff.rfl⟩⟩
          have h4 : sslice P H2 t (globO x (sval s.σ x)) (lo.map (sval s.σ)) (hi.map (sval s.σ)) (mx.map (sval s.σ)) = some r := h1 H2 h3
          rw [hop]
          simp only [sop, h4]
        · rintro _ _ ⟨rfl, rfl⟩
          exact ⟨hS, h2⟩
      · exact h.elim
    · rename_i hd
      have hd : hasD D i = false := by simpa using hd
      rw [hd]
      split at h
      · exact stepN_S (stepN_mono (opN_leg (by simp [gst, hg]) h) fun s' g => ⟨g.1, g.2⟩)
      · rename_i hh
        have hh : heavy o.op = false := by simpa using hh
        refine stepN_S (stepN_mono (stepN_keep hh (opN_leg (by simp [gst, hg]) h)) fun s' g => ?_)
        have hS' : S s'.H := by rw [g.1]; exact hS
        exact ⟨hS', g.2⟩
  · exact h.elim
theorem opsS_of_opsL {n : Nat} {l : List Oper} {S : Heap → Prop} {D : List Nat} {K : St → Prop} : ∀ (is : List Nat) (s : St), S s.H → opsL P n l S D is s K → opsS P n l.toArray S D is s K
  | [], s, _, h => h
  | i :: is, s, hS, h => by
    rw [opsL_cons] at h
    obtain ⟨o, h1, h2⟩ := atN_of h
    exact ⟨o, by simpa using h1, stepS_mono (opsNS_one hS h2) fun s' hS' g => opsS_of_opsL is s' hS' g⟩
def opsLs (P : Program) (n : Nat) (l : List Oper) (S : Heap → Prop) (D : List Nat) : List (List Nat) → St → (St → Prop) → Prop
  | [], _, _ => True
  | is :: Ls, s, K => opsL P n l S D is s K ∧ opsLs P n l S D Ls s K
theorem opsLs_mem {n : Nat} {l : List Oper} {S : Heap → Prop} {D : List Nat} {s : St} {K : St → Prop} : ∀ {Ls : List (List Nat)}, opsLs P n l S D Ls s K → ∀ is ∈ Ls, opsL P n l S D is s K
  | [], _, is, h => by simp at h
  | is0 :: Ls, h, is, hm => by
    rcases List.mem_cons.1 hm with rfl | hm
    · exact h.1
    · exact opsLs_mem h.2 is hm
/-- A region that draws its order, operations that allocate among them: D the reads of what nothing changes, hv the operations whose orders matter, Ls one order of all for each order of these. -/
theorem SW.regionP {n : Nat} {id : Nat} {l : List Oper} {Q : Exit → St → Prop} {s : St} (S : Heap → Prop) (D hv : List Nat) (l0 : List Nat) (Ls : List (List Nat)) (hm : P.follows .mixedOrders = true) (hok : famOk D l.toArray hv (l0 :: Ls) = true) (hS : S s.H) (h : opsLs P n l S D (l0 :: Ls) s (Q .normal)) : SW P n (.region id l.toArray true) Q s := by
  intro j a w ha
  have hd : SAll n j s a w.drew := ⟨ha.rel.drew, ha.slots.nx ha.rel (Nx.drew j s.H w), ha.size, ha.defers⟩
  refine wp_region_any hm ?_
  have hleft : left l.toArray.size (Array.replicate l.toArray.size false) = List.range' 0 l.length := by
    unfold left
    rw [← List.range_eq_range']
    simp only [List.size_toArray]
    apply List.filter_eq_self.2
    intro k hk
    simp at hk
    simp [Array.getD_eq_getD_getElem?, hk]
  have hfam := fam_of hok
  refine wpAny_of_fam (K := Q .normal) hfam l.toArray.size _ [] s j a w.drew (by simp) (fun m y _ h => by simp [Array.getD_eq_getD_getElem?, Array.getElem?_replicate] at h; split at h <;> simp at h) (by rw [hleft]; simp) hS ⟨l0, by simp, List.nil_prefix⟩ ?_ ?_ hd (fun j' s' a' w' h1 h2 h3 => ⟨j', s', h1, (Nx.drew j s.H w).trans h2, h3⟩)
  · intro i hi _
    simp at hi
    simp [Array.getD_eq_getD_getElem?, hi]
  · rintro is ⟨hm, _⟩
    have hr := opsS_of_opsL (P := P) is s hS (opsLs_mem h is hm)
    have e : is.filter (unl (Array.replicate l.toArray.size false)) = is := List.filter_eq_self.2 fun k hk => by
      have := hfam.bd is hm k hk
      simp at this
      simp [unl, Array.getD_eq_getD_getElem?, this]
    rw [e]; exact hr
theorem LoadS.rptr {t : TypeId} {cs : List SV} {off : Nat} {S : Heap → Prop} {k : SV → Prop} (h : @bindV (sload P (hp [] 0) t (.rptr cs off)) ⟨k⟩) : @LoadS P t (.rptr cs off) ⟨S, k⟩ := by
  cases hs : sload P (hp [] 0) t (.rptr cs off) with
  | none => rw [hs] at h; exact h.elim
  | some r => rw [hs] at h; exact ⟨r, fun H2 _ => by rw [← hs]; rfl, h⟩
theorem SliceS.own {t : TypeId} {b off m cap sz : Nat} {ex : Bool} {lo hi mx : Option SV} {S : Heap → Prop} {k : SV → Prop} (h : @bindV (sslice P (hp [] 0) t (.own b off m cap sz ex) lo hi mx) ⟨k⟩) : @SliceS P t (.own b off m cap sz ex) lo hi mx ⟨S, k⟩ := by
  cases hs : sslice P (hp [] 0) t (.own b off m cap sz ex) lo hi mx with
  | none => rw [hs] at h; exact h.elim
  | some r => rw [hs] at h; exact ⟨r, fun H2 _ => by rw [← hs]; rfl, h⟩
attribute [go_sem ↓] opsL_nil opsL_cons atN_zero atN_succ
end Go.Sh

/-
  Sets of words: the reference.
-/

namespace Go.Sh
set_option linter.unusedSimpArgs false
set_option linter.unusedVariables false
open Go Go.Proofs

theorem blt_eq : ∀ (x y : List UInt8), Op.bytesLess x y = decide (x < y)
  | [], [] => by simp [Op.bytesLess]
  | _ :: _, [] => by simp [Op.bytesLess]
  | [], _ :: _ => by simp [Op.bytesLess]
  | a :: x, b :: y => by
    rw [Op.bytesLess, blt_eq x y]
    simp only [List.cons_lt_cons_iff]
    by_cases h1 : a < b <;> by_cases h2 : a = b <;> by_cases h3 : x < y <;> simp [h1, h2, h3]
@[go_sem] theorem sstr_lss (a b : List UInt8) : sstr .lss (sb a) (sb b) = some (.val (.bool (decide (a < b)))) := by simp only [sstr, sb_toList, blt_eq]
@[go_sem] theorem sstr_geq (a b : List UInt8) : sstr .geq (sb a) (sb b) = some (.val (.bool (!decide (a < b)))) := by simp only [sstr, sb_toList, blt_eq]
theorem tput_at : ∀ {L : List Wd} {s : Wd} {k : Nat}, k ≤ L.length → (∀ i, i < k → L.getD i [] < s) → (k < L.length → ¬ L.getD k [] < s) → tput L s = if k < L.length ∧ L.getD k [] = s then L else L.take k ++ s :: L.drop k
  | [], s, k, hk, _, _ => by
    have : k = 0 := by simpa using hk
    subst this
    simp [tput]
  | x :: L, s, 0, _, _, h2 => by
    have h2 := h2 (by simp)
    simp only [List.getD_cons_zero] at h2
    rw [tput, if_neg h2]
    by_cases he : x = s
    · rw [if_pos he, if_pos ⟨by simp, by simpa using he⟩]
    · rw [if_neg he, if_neg (by simpa using he)]; rfl
  | x :: L, s, k + 1, hk, h1, h2 => by
    have hx := h1 0 (by omega)
    simp only [List.getD_cons_zero] at hx
    have ih := tput_at (L := L) (s := s) (k := k) (by simpa using hk) (fun i hi => by simpa using h1 (i + 1) (by omega)) (fun h => by simpa using h2 (by simpa using h))
    rw [tput, if_pos hx, ih]
    simp only [List.length_cons, Nat.add_lt_add_iff_right, List.getD_cons_succ]
    split <;> simp
def PutQ (H : Heap) (R : List Wd) (r : SV) (H' : Heap) : Prop := ∃ b cap ex e, r = .own b 0 R.length cap 1 ex ∧ R.length ≤ cap ∧ H'.map b = some ⟨strs R, e⟩ ∧ b < H'.nb ∧ H.nb ≤ H'.nb ∧ ∀ x, x < H.nb → H'.map x = H.map x
set_option maxRecDepth 20000 in
set_option maxHeartbeats 16000000 in
theorem Tryz.l3Put_ok (H : Heap) (b cap : Nat) (ex e : Bool) (L : List Wd) (s : Wd) (hL : L.length ≤ 1048576) (hb : H.map b = some ⟨strs L, e⟩) (hbn : b < H.nb) (hcap : L.length ≤ cap) :
    CallS Tryz.prog 118 [.own b 0 L.length cap 1 ex, str s, .val (.bool false)] H (PutQ H (tput L s)) := by
  have lC := strs_length L
  refine CallS.of_body Tryz.func118 rfl (by kernel_rfl) (by simp [Tryz.ntmps118]) ?_
  refine SW.seqW ⟨ofL [(0, .own b 0 L.length cap 1 ex), (1, str s), (2, .val (.bool false))], H⟩ ?_ ?_
  · refine SW_of_vc Tryz.mixed _ _ _ (by kernel_rfl) ?_
    simp (disch := omega) only [Tryz.ntmps118, Tryz.results118, go_sem]
    exact Wk.of (by simp only [go_sem, ↓List.forall_mem_cons, List.not_mem_nil, false_implies, implies_true, and_true, true_and, and_self, ri_eq, Int.natCast_add, Int.cast_ofNat_Int]; try simp) rfl
  refine SW.seqW ⟨ofL [(0, .own b 0 L.length cap 1 ex), (1, str s), (2, .val (.bool false)), (7, .val (.int .i64 0))], H⟩ ?_ ?_
  · refine SW_of_vc Tryz.mixed _ _ _ (by kernel_rfl) ?_
    simp (disch := omega) only [Tryz.ntmps118, Tryz.results118, go_sem]
    exact Wk.of (by simp only [go_sem, ↓List.forall_mem_cons, List.not_mem_nil, false_implies, implies_true, and_true, true_and, and_self, ri_eq, Int.natCast_add, Int.cast_ofNat_Int]; try simp) rfl
  refine SW.seqI (fun k : Nat => ⟨ofL [(0, .own b 0 L.length cap 1 ex), (1, str s), (2, .val (.bool false)), (7, .val (.int .i64 k))], H⟩) (fun k => k ≤ L.length ∧ (∀ i, i < k → L.getD i [] < s) ∧ (k < L.length → ¬ L.getD k [] < s)) ?_ ?_
  · refine SW_of_vc Tryz.mixed _ _ _ (by kernel_rfl) ?_
    simp (disch := omega) only [Tryz.ntmps118, Tryz.results118, go_sem]
    refine LoopW.loop (fun k : Nat => ⟨ofL [(0, .own b 0 L.length cap 1 ex), (1, str s), (2, .val (.bool false)), (7, .val (.int .i64 k))], H⟩) (fun k => k ≤ L.length ∧ (∀ i, i < k → L.getD i [] < s)) (fun k => L.length - k) 0 ⟨by omega, by simp⟩ (Wk.of (by simp only [go_sem, ↓List.forall_mem_cons, List.not_mem_nil, false_implies, implies_true, and_true, true_and, and_self, ri_eq, Int.natCast_add, Int.cast_ofNat_Int]; try simp) rfl) ?_
    rintro k ⟨hk, hk2⟩
    refine SW_of_vc Tryz.mixed _ _ _ (by kernel_rfl) ?_
    by_cases hlt : k < L.length
    · have hg := strs_get hlt
      by_cases hs : L.getD k [] < s
      · have hd := decide_eq_true hs
        simp (disch := omega) only [Tryz.ntmps118, Tryz.results118, go_sem, hb, hg, lC, hd]
        refine ⟨k + 1, ⟨hlt, fun i hi => ?_⟩, by omega, Wk.of (by simp only [go_sem, ↓List.forall_mem_cons, List.not_mem_nil, false_implies, implies_true, and_true, true_and, and_self, ri_eq, Int.natCast_add, Int.cast_ofNat_Int]; try simp) rfl⟩
        rcases Nat.lt_succ_iff_lt_or_eq.1 hi with g | rfl
        · exact hk2 i g
        · exact hs
      · have hd := decide_eq_false hs
        simp (disch := omega) only [Tryz.ntmps118, Tryz.results118, go_sem, hb, hg, lC, hd]
        exact ⟨k, ⟨hk, hk2, fun _ => hs⟩, Wk.of (by simp only [go_sem, ↓List.forall_mem_cons, List.not_mem_nil, false_implies, implies_true, and_true, true_and, and_self, ri_eq, Int.natCast_add, Int.cast_ofNat_Int]; try simp) rfl⟩
    · simp (disch := omega) only [Tryz.ntmps118, Tryz.results118, go_sem]
      exact ⟨k, ⟨hk, hk2, fun h => absurd h hlt⟩, Wk.of (by simp only [go_sem, ↓List.forall_mem_cons, List.not_mem_nil, false_implies, implies_true, and_true, true_and, and_self, ri_eq, Int.natCast_add, Int.cast_ofNat_Int]; try simp) rfl⟩
  rintro k ⟨hk, hk1, hk2⟩
  have ht := tput_at hk hk1 hk2
  refine SW.seqI (fun _ : Unit => ⟨ofL [(0, .own b 0 L.length cap 1 ex), (1, str s), (2, .val (.bool false)), (7, .val (.int .i64 k))], H⟩) (fun _ => ¬ (k < L.length ∧ L.getD k [] = s)) ?_ ?_
  · refine SW_of_vc Tryz.mixed _ _ _ (by kernel_rfl) ?_
    by_cases hlt : k < L.length
    · have hg := strs_get hlt
      by_cases he : L.getD k [] = s
      · rw [if_pos ⟨hlt, he⟩] at ht
        have e1 : (L.getD k [] == s) = true := by rw [he]; exact beq_self_eq_true s
        simp (disch := omega) only [Tryz.ntmps118, Tryz.results118, go_sem, hb, hg, lC, e1]
        rw [ht]
        exact ⟨b, cap, ex, e, rfl, hcap, hb, hbn, Nat.le_refl _, fun _ _ => rfl⟩
      · have e1 : (L.getD k [] == s) = false := beq_eq_false_iff_ne.2 he
        simp (disch := omega) only [Tryz.ntmps118, Tryz.results118, go_sem, hb, hg, lC, e1]
        exact ⟨(), fun g => he g.2, Wk.of (by simp only [go_sem, ↓List.forall_mem_cons, List.not_mem_nil, false_implies, implies_true, and_true, true_and, and_self, ri_eq, Int.natCast_add, Int.cast_ofNat_Int]; try simp) rfl⟩
    · simp (disch := omega) only [Tryz.ntmps118, Tryz.results118, go_sem]
      exact ⟨(), fun g => hlt g.1, Wk.of (by simp only [go_sem, ↓List.forall_mem_cons, List.not_mem_nil, false_implies, implies_true, and_true, true_and, and_self, ri_eq, Int.natCast_add, Int.cast_ofNat_Int]; try simp) rfl⟩
  rintro _ hno
  rw [if_neg hno] at ht
  have hf1 : (List.take k (strs L)).all flat = true := List.all_eq_true.2 fun x hx => by obtain ⟨y, _, rfl⟩ := List.mem_map.1 (List.mem_of_mem_take hx); rfl
  have hf2 : (List.drop k (strs L)).all flat = true := List.all_eq_true.2 fun x hx => by obtain ⟨y, _, rfl⟩ := List.mem_map.1 (List.mem_of_mem_drop hx); rfl
  have e1 : strs (tput L s) = List.take k (strs L) ++ .val (.string (sb s)) :: List.drop k (strs L) := by rw [ht]; simp [strs, List.map_take, List.map_drop]
  have el : (tput L s).length = L.length + 1 := by rw [ht]; simp; omega
  clear ht hk1 hk2
  generalize tput L s = T at *
  have hil := lC
  have lt : (List.take k (strs L)).length = k := by simp [hil]; omega
  have tk0 : List.take k (List.take k (strs L)) = List.take k (strs L) := by rw [List.take_take, Nat.min_self]
  have dt : List.take (L.length - k) (List.drop k (strs L)) = List.drop k (strs L) := List.take_of_length_le (by rw [List.length_drop, hil]; omega)
  have lt1 : (List.take k (strs L) ++ [SV.val (Value.string (sb s))]).length = k + 1 := by rw [List.length_append, lt]; rfl
  have tk1 : List.take (k + 1) (List.take k (strs L) ++ [SV.val (Value.string (sb s))]) = List.take k (strs L) ++ [SV.val (Value.string (sb s))] := List.take_of_length_le (by omega)
  have rz : ∀ zs : List SV, rep zs 0 = [] := fun _ => rfl
  generalize strs L = A at *
  generalize hA' : strs T = A' at *
  refine SW.seqI (fun y : Nat × Heap => ⟨ofL [(6, .own y.1 0 (L.length + 1) (L.length + 1) 1 false)], y.2⟩) (fun y => y.2.map y.1 = some ⟨A', false⟩ ∧ y.1 < y.2.nb ∧ H.nb ≤ y.2.nb ∧ ∀ x, x < H.nb → y.2.map x = H.map x) ?_ ?_
  · rcases Nat.eq_zero_or_pos k with h0 | h0 <;> rcases Nat.lt_or_ge k L.length with h1 | h1
    all_goals
      refine SW.regionP (fun _ => True) [3, 10] [0, 4, 6, 7, 11] [0, 1, 2, 3, 4, 5, 6, 7, 8, 9, 10, 11, 12] [[0, 1, 2, 3, 5, 6, 4, 7, 8, 9, 10, 11, 12], [1, 2, 3, 5, 6, 0, 4, 7, 8, 9, 10, 11, 12]] Tryz.mixed (by kernel_rfl) trivial ⟨?_, ?_, ?_, trivial⟩
    all_goals
      simp (disch := omega) only [Tryz.ntmps118, Tryz.results118, go_sem, rz, hb, hil, hf1, hf2, lt, tk0, dt, lt1, tk1, hset_map, hset_nb, hpush_map, hpush_nb]
      refine SliceS.own ?_
      simp (disch := omega) only [Tryz.ntmps118, Tryz.results118, go_sem, rz, hb, hil, hf1, hf2, lt, tk0, dt, lt1, tk1, hset_map, hset_nb, hpush_map, hpush_nb]
      refine SliceS.own ?_
      simp (disch := omega) only [Tryz.ntmps118, Tryz.results118, go_sem, rz, hb, hil, hf1, hf2, lt, tk0, dt, lt1, tk1, hset_map, hset_nb, hpush_map, hpush_nb]
    iterate 3
      · have n1 : 1 + (L.length - k) = L.length + 1 := by omega
        have e2 : A' = .val (.string (sb s)) :: List.drop k A := by rw [e1, h0]; rfl
        refine ⟨(H.nb + 1 + 1 + 1, _), ⟨?_, ?_, ?_, ?_⟩, Wk.of (by simp only [go_sem, ↓List.forall_mem_cons, List.not_mem_nil, false_implies, implies_true, and_true, true_and, and_self, ri_eq, Int.natCast_add, Int.cast_ofNat_Int, n1]; try simp) rfl⟩
        · simp (disch := omega) only [hset_map, hpush_map, hset_nb, hpush_nb, if_pos, if_neg, ↓reduceIte]
          rw [e2]
        · simp only [hset_nb, hpush_nb]; omega
        · simp only [hset_nb, hpush_nb]; omega
        · intro x hx
          simp (disch := omega) only [hset_map, hpush_map, hset_nb, hpush_nb, if_pos, if_neg, ↓reduceIte]
    iterate 3
      · have n1 : L.length = 0 := by omega
        have e2 : A' = [.val (.string (sb s))] := by rw [e1, h0, List.drop_zero, List.length_eq_zero_iff.1 (hil.trans n1)]; rfl
        refine ⟨(H.nb + 1 + 1, _), ⟨?_, ?_, ?_, ?_⟩, Wk.of (by simp only [go_sem, ↓List.forall_mem_cons, List.not_mem_nil, false_implies, implies_true, and_true, true_and, and_self, ri_eq, Int.natCast_add, Int.cast_ofNat_Int, n1]; try simp) rfl⟩
        · simp (disch := omega) only [hset_map, hpush_map, hset_nb, hpush_nb, if_pos, if_neg, ↓reduceIte]
          rw [e2]
        · simp only [hset_nb, hpush_nb]; omega
        · simp only [hset_nb, hpush_nb]; omega
        · intro x hx
          simp (disch := omega) only [hset_map, hpush_map, hset_nb, hpush_nb, if_pos, if_neg, ↓reduceIte]
    iterate 3
      · have n1 : k + 1 + (L.length - k) = L.length + 1 := by omega
        have e2 : A' = List.take k A ++ [SV.val (Value.string (sb s))] ++ List.drop k A := by rw [e1]; simp
        refine ⟨(H.nb + 1 + 1 + 1 + 1, _), ⟨?_, ?_, ?_, ?_⟩, Wk.of (by simp only [go_sem, ↓List.forall_mem_cons, List.not_mem_nil, false_implies, implies_true, and_true, true_and, and_self, ri_eq, Int.natCast_add, Int.cast_ofNat_Int, n1]; try simp) rfl⟩
        · simp (disch := omega) only [hset_map, hpush_map, hset_nb, hpush_nb, if_pos, if_neg, ↓reduceIte]
          rw [e2]
        · simp only [hset_nb, hpush_nb]; omega
        · simp only [hset_nb, hpush_nb]; omega
        · intro x hx
          simp (disch := omega) only [hset_map, hpush_map, hset_nb, hpush_nb, if_pos, if_neg, ↓reduceIte]
    iterate 3
      · have n1 : k = L.length := by omega
        have e2 : A' = List.take k A ++ [SV.val (Value.string (sb s))] := by rw [e1, List.drop_of_length_le (by omega)]
        refine ⟨(H.nb + 1 + 1 + 1, _), ⟨?_, ?_, ?_, ?_⟩, Wk.of (by simp only [go_sem, ↓List.forall_mem_cons, List.not_mem_nil, false_implies, implies_true, and_true, true_and, and_self, ri_eq, Int.natCast_add, Int.cast_ofNat_Int, n1]; try simp) rfl⟩
        · simp (disch := omega) only [hset_map, hpush_map, hset_nb, hpush_nb, if_pos, if_neg, ↓reduceIte]
          rw [e2]
        · simp only [hset_nb, hpush_nb]; omega
        · simp only [hset_nb, hpush_nb]; omega
        · intro x hx
          simp (disch := omega) only [hset_map, hpush_map, hset_nb, hpush_nb, if_pos, if_neg, ↓reduceIte]
  · rintro ⟨b', H'⟩ ⟨q1, q2, q3, q4⟩
    simp only at q1 q2 q3 q4
    refine SW_of_vc Tryz.mixed _ _ _ (by kernel_rfl) ?_
    simp (disch := omega) only [Tryz.ntmps118, Tryz.results118, go_sem]
    exact ⟨b', L.length + 1, false, false, by rw [el], by omega, by rw [hA']; exact q1, q2, q3, q4⟩
end Go.Sh

/-
  Strings split and cut at longer separators; the names of the features: contracts.
-/
namespace Go.Sh
set_option linter.unusedSimpArgs false
set_option linter.unusedVariables false
open Go Go.Proofs

theorem Tryz.maxL {O : Nat → Prop} {w : World} (h : TabOk O w) : ∃ m, w.cell? ⟨1, 0, none⟩ = some (.int .i64 m) := by
  obtain ⟨_, hc⟩ := h (1, [fun v => ∃ m, v = Value.int .i64 m]) (by simp [TABS])
  obtain ⟨v, h1, ⟨m, rfl⟩, _⟩ := hc 0 _ rfl
  exact ⟨m, h1⟩
end Go.Sh

/-
  Lists of strings: what the library makes of them (sorted, compacted; the fields of a text).
-/
namespace Go.Sh
set_option linter.unusedSimpArgs false
set_option linter.unusedVariables false
open Go Go.Proofs Go.Sort

theorem set_mid {L L' : List Wd} (hl : L'.length = L.length) {k : Nat} (hk : k < L.length) : (L'.take k ++ L.drop k).set k (L'.getD k []) = L'.take (k + 1) ++ L.drop (k + 1) := by
  rw [List.set_append_right _ _ (by simp; omega), List.length_take, show k - min k L'.length = 0 by omega, List.drop_eq_getElem_cons hk, List.set_cons_zero, take_at [] (by omega : k < L'.length), List.append_assoc]; rfl
theorem putRow_relK {j : JMap} {H : Heap} {w : World} (r : Rel j H w) {b : Nat} {L L' : List Wd} {e : Bool} (hb : H.map b = some ⟨strs L, e⟩) {rb base : Nat} (hj : j b = some (rb, base)) (hl : L'.length = L.length) (hH : Holds encStr w rb base L.toArray) :
    ∀ k, k ≤ L.length → Rel j (H.set b (some ⟨strs (L'.take k ++ L.drop k), e⟩)) (putRow encStr w rb base (L'.take k ++ L.drop k).toArray) ∧ Nx j H w j (H.set b (some ⟨strs (L'.take k ++ L.drop k), e⟩)) (putRow encStr w rb base (L'.take k ++ L.drop k).toArray)
  | 0, _ => by
    rw [List.take_zero, List.drop_zero, List.nil_append, H.set_same b _ (by rw [hb]), putRow_self _ _ _ _ _ hH]
    exact ⟨r, Nx.refl _ _ _⟩
  | k + 1, hk => by
    obtain ⟨r1, n1⟩ := putRow_relK r hb hj hl hH k (by omega)
    have hlen : (L'.take k ++ L.drop k).length = L.length := by simp; omega
    obtain ⟨_, _, r2, n2⟩ := setCell_rel r1 (blk := ⟨strs (L'.take k ++ L.drop k), e⟩) (Heap.map_set_same _ _ _) hj k (str (L'.getD k [])) (encStr (L'.getD k [])) (by show k < (strs _).length; rw [strs_length, hlen]; omega) (by simp only [VRel]; rfl)
    have e2 := putRow_set encStr w rb base (L'.take k ++ L.drop k).toArray k (L'.getD k []) (by simp; omega)
    rw [List.setIfInBounds_toArray, set_mid hl (by omega)] at e2
    have e3 : (strs (L'.take k ++ L.drop k)).set k (str (L'.getD k [])) = strs (L'.take (k + 1) ++ L.drop (k + 1)) := by rw [← set_mid hl (by omega)]; exact strs_set _ _ _
    rw [Heap.set_set, e2] at r2 n2
    simp only [e3] at r2 n2
    exact ⟨r2, n1.trans n2⟩
theorem putRow_rel {j : JMap} {H : Heap} {w : World} (r : Rel j H w) {b : Nat} {L L' : List Wd} {e : Bool} (hb : H.map b = some ⟨strs L, e⟩) {rb base : Nat} (hj : j b = some (rb, base)) (hl : L'.length = L.length) (hH : Holds encStr w rb base L.toArray) (n : Nat) (os : Array Obj) :
    Rel j (H.set b (some ⟨strs L', e⟩)) (grow (putRow encStr (Sort.ahead w n) rb base L'.toArray) os) ∧ Nx j H w j (H.set b (some ⟨strs L', e⟩)) (grow (putRow encStr (Sort.ahead w n) rb base L'.toArray) os) := by
  obtain ⟨r1, n1⟩ := putRow_relK r hb hj hl hH L.length (Nat.le_refl _)
  rw [← hl, List.take_length, hl, List.drop_length, List.append_nil] at r1 n1
  have hbel : RowKit.Below (putRow encStr w rb base L'.toArray).heap.size (putRow encStr w rb base L'.toArray) (grow (putRow encStr (Sort.ahead w n) rb base L'.toArray) os) :=
    ⟨rfl, rfl, rfl, by simp, fun k hk => by rw [heap_grow_old _ _ (by simpa using hk)]; rfl⟩
  obtain ⟨r2, n2⟩ := r1.below hbel
  exact ⟨r2, n1.trans n2⟩
theorem own_holds {j : JMap} {H : Heap} {w : World} (r : Rel j H w) {b : Nat} {L : List Wd} {e : Bool} (hb : H.map b = some ⟨strs L, e⟩) {rb base : Nat} (hj : j b = some (rb, base)) : Holds encStr w rb base L.toArray := by
  intro k hk
  have hk' : k < L.length := by simpa using hk
  obtain ⟨v, h1, h2⟩ := own_cells r hb hj (strs_get hk')
  simp only [VRel] at h2
  subst h2
  obtain ⟨_, hf, _⟩ := setCell_rel r hb hj k (str []) (encStr []) (by show k < (strs L).length; rw [strs_length]; exact hk') (by simp only [VRel]; rfl)
  refine ⟨?_, hf⟩
  rw [h1]
  simp [encStr, sb, hk']
/-- Where an own slice of strings, not empty, lies. -/
theorem own_at {j : JMap} {w : World} {O : Nat → Prop} {b n cap : Nat} {ex : Bool} {v : Value} (h0 : 0 < n) (hv : VRel O w j (.own b 0 n cap 1 ex) v) : ∃ rb base cap', j b = some (rb, base) ∧ v = .slice (some ⟨rb, base, none⟩) n cap' ∧ n ≤ cap' ∧ rb < w.heap.size := by
  simp only [VRel] at hv
  obtain ⟨rb, base, a, cap', c, e, fr, h1, h2, h3, h4, h5, h6, h7, h8⟩ := hv
  have ha : a = ⟨rb, base, none⟩ := by
    rcases h6 with g | g
    · omega
    · rw [g]; rfl
  subst ha
  refine ⟨rb, base, cap', h1, h2, by omega, ?_⟩
  rcases Nat.lt_or_ge rb w.heap.size with g | g
  · exact g
  · rw [Array.getElem?_eq_none g] at h7; simp at h7
theorem Tryz.sort_ok (H : Heap) (b cap : Nat) (ex e : Bool) (L : List Wd) (h0 : L ≠ []) (hL : L.length ≤ 1048576) (hb : H.map b = some ⟨strs L, e⟩) :
    CallS Tryz.prog 190 [.own b 0 L.length cap 1 ex] H (fun r H' => r = .tup [] ∧ H' = H.set b (some ⟨strs (msort L), e⟩)) := by
  have hlp : 0 < L.length := List.length_pos_iff.2 h0
  refine ⟨⟨_, Tryz.func190, rfl, rfl⟩, fun j w vs r hl => ?_⟩
  simp only [LRel] at hl
  obtain ⟨v, rest, rfl, hv, rfl⟩ := hl
  obtain ⟨rb, base, cap', hj, rfl, hcap, hrb⟩ := own_at hlp hv
  have hH := own_holds r hb hj
  refine (Tryz.slices_Sort_string rb base cap' L w hH hrb (by omega)).mono ?_
  rintro e' w' ⟨rfl, n, os, rfl⟩
  obtain ⟨r2, n2⟩ := putRow_rel r hb hj (L' := msort L) (msort_length L) hH n os
  exact ⟨.tup [], _, j, _, rfl, r2, by simp only [VRel, LRel]; exact ⟨[], rfl, rfl⟩, n2, rfl, rfl⟩
theorem compactUp_le (d : Array Wd) (m : Nat) : (Lib.compactUpTo d m).length ≤ m := by
  rw [Lib.compactUpTo, List.length_map]
  have := List.length_filter_le (Lib.keeps d) (List.range m)
  simpa using this
theorem VRel.cut {O : Nat → Prop} {w : World} {j : JMap} {b n m cap : Nat} {ex : Bool} {a : Option Addr} {cap' : Nat} (hm : m ≤ n) (hv : VRel O w j (.own b 0 n cap 1 ex) (.slice a n cap')) : VRel O w j (.own b 0 m cap 1 ex) (.slice a m cap') := by
  simp only [VRel] at hv ⊢
  obtain ⟨rb, base, a', cap2, c, e, fr, h1, h2, h3, h4, h5, h6, h7, h8⟩ := hv
  obtain ⟨rfl, rfl⟩ : a = some a' ∧ cap' = cap2 := by simpa using h2
  exact ⟨rb, base, a', cap', c, e, fr, h1, rfl, by omega, h4, h5, h6, h7, h8⟩
/-- A list of strings with no element twice in a row: the block that is left. -/
def cpc (L : List Wd) : List Wd := Lib.compactUpTo L.toArray L.length ++ List.replicate (L.length - (Lib.compactUpTo L.toArray L.length).length) []
theorem Tryz.compact_ok (H : Heap) (b cap : Nat) (ex e : Bool) (L : List Wd) (h0 : L ≠ []) (hL : L.length ≤ 1048576) (hb : H.map b = some ⟨strs L, e⟩) :
    CallS Tryz.prog 191 [.own b 0 L.length cap 1 ex] H (fun r H' => r = .own b 0 (Lib.compactUpTo L.toArray L.length).length cap 1 ex ∧ H' = H.set b (some ⟨strs (cpc L), e⟩)) := by
  have hlp : 0 < L.length := List.length_pos_iff.2 h0
  have hle := compactUp_le L.toArray L.length
  refine ⟨⟨_, Tryz.func191, rfl, rfl⟩, fun j w vs r hl => ?_⟩
  simp only [LRel] at hl
  obtain ⟨v, rest, rfl, hv, rfl⟩ := hl
  obtain ⟨rb, base, cap', hj, rfl, hcap, hrb⟩ := own_at hlp hv
  have hH := own_holds r hb hj
  have w0 := Tryz.slices_Compact_string_arr rb base cap' L.toArray w hH (by simp; omega) (by simpa using hcap)
  simp only [List.size_toArray] at w0
  refine w0.mono ?_
  rintro e' w' ⟨rfl, q, rfl⟩
  obtain ⟨r2, n2⟩ := putRow_rel r hb hj (L' := cpc L) (by simp [cpc]; omega) hH q #[]
  rw [grow_empty] at r2 n2
  exact ⟨_, _, j, _, rfl, r2, (hv.nx r n2).cut hle, n2, rfl, rfl⟩
theorem j1_at {A : Nat} {b : Nat} {p : Nat × Nat} (h : (fun x => if x = 0 then some (A, 0) else none : JMap) b = some p) : b = 0 ∧ p = (A, 0) := by
  simp only at h
  split at h
  · rename_i h0; exact ⟨h0, by simpa using h.symm⟩
  · simp at h
/-- A list of strings of the call's own, as the library hands it back. -/
theorem own_rel {w w' : World} {A n : Nat} {L : List Wd} {e : TypeId} (ht : TabOk (fun _ => False) w) (hbel : RowKit.Below w.heap.size w w') (hA : w.heap.size ≤ A) (hn : n = L.length)
    (hown : w'.ownsRow w.heap.size e 1 (.slice (some ⟨A, 0, none⟩) n n) n (L.map fun p => Value.string (sb p))) :
    Rel (fun x => if x = 0 then some (A, 0) else none) (Heap.one ⟨strs L, false⟩) w' ∧ VRel (OwnR (fun x => if x = 0 then some (A, 0) else none) (Heap.one ⟨strs L, false⟩)) w' (fun x => if x = 0 then some (A, 0) else none) (.own 0 0 n n 1 false) (.slice (some ⟨A, 0, none⟩) n n) ∧
      ∀ k, OwnR (fun x => if x = 0 then some (A, 0) else none) (Heap.one ⟨strs L, false⟩) k → k = A := by
  subst hn
  rcases hown.2 with ⟨h, _⟩ | ⟨g, cap, cur, hv, hg, hb, h1, h2, h3, h4⟩
  · cases h
  obtain ⟨rfl, rfl⟩ : A = g ∧ L.length = cap := by simpa using hv
  rw [Nat.mul_one] at h3 h4
  have ho : ∀ k, OwnR (fun x => if x = 0 then some (A, 0) else none) (Heap.one ⟨strs L, false⟩) k → k = A := by
    rintro k ⟨b, blk, base, g1, g2⟩
    have := (j1_at g2).2
    simp at this; exact this.1
  have hone : ∀ b blk, (Heap.one ⟨strs L, false⟩).map b = some blk → b = 0 ∧ blk = ⟨strs L, false⟩ := fun b blk h => by
    simp only [Heap.one] at h
    split at h
    · rename_i h0; exact ⟨h0, by simpa using h.symm⟩
    · simp at h
  refine ⟨⟨ht.tr (Below.tr hbel _ fun k hk => .inr (by rw [ho k hk]; exact hA)), fun b p h => ?_, fun b blk h => ?_, fun b b' k k' rb ba ba' h1 h2 h3 h4 => ?_⟩, ?_, ho⟩
  · rw [(j1_at h).1]; simp [Heap.one]
  · obtain ⟨rfl, rfl⟩ := hone b blk h
    refine ⟨A, 0, by simp, cur, e, 0, 0, hb, .inl (Nat.le_refl _), by simp only [strs_length]; omega, by simp, fun i s hi => ?_⟩
    simp only at hi
    have hil : i < L.length := by
      rcases Nat.lt_or_ge i L.length with h | h
      · exact h
      · rw [List.getElem?_eq_none (by rw [strs_length]; exact h)] at hi; simp at hi
    rw [strs_get hil] at hi
    obtain rfl : str (L.getD i []) = s := by simpa using hi
    refine ⟨.string (sb (L.getD i [])), ?_, by simp only [VRel]⟩
    rw [Nat.zero_add, ← Array.getElem?_toList]
    have e1 : (cur.toList.take L.length)[i]? = cur.toList[i]? := List.getElem?_take_of_lt hil
    rw [← e1, h4]
    simp [hil]
  · exact (hone _ _ h1).1.trans (hone _ _ h2).1.symm
  · simp only [VRel]
    exact ⟨A, 0, ⟨A, 0, none⟩, L.length, cur, e, (0, 0), by simp, rfl, Nat.le_refl _, Nat.le_refl _, by simp, .inr rfl, hb, by omega⟩
theorem Tryz.fields_f (g : FuncId) (t : List UInt8) (ht1 : t.length ≤ 1048576) (ha : ∀ c ∈ t, c.toNat < 128) (hg : ∀ x : Int, 0 ≤ x → x ≤ 1114111 → PCall Tryz.prog g [.val (.int .i32 x)] (.val (.bool (decide (x = 32))))) (he : ∀ args w, (callFunc g args).run Tryz.prog w = .ok (.enter g args) w) :
    FCall Tryz.prog 192 [str t, .clos (.func g) [] []] (FlatRes (wds t).length 1 (strs (wds t))) := by
  refine ⟨⟨_, Tryz.func192, rfl, rfl⟩, fun w vs hl ht => ?_⟩
  simp only [LRel, VRel] at hl
  obtain ⟨v, rest, rfl, rfl, v2, rest2, rfl, ⟨us, vs, rfl, rfl, rfl⟩, rfl⟩ := hl
  have hp : PredGrows Tryz.prog g #[] (fun x => decide (x = 32)) w := fun W x hx hb => by
    have := (hg x (by omega) (by omega)).2 W [.int .i32 x] (by simp only [LRel, VRel]; exact ⟨_, [], rfl, rfl, rfl⟩) (ht.tr (Below.tr hb _ (fun k h => h.elim)))
    refine this.mono ?_
    rintro e w' ⟨v, rfl, h1, h2⟩
    simp only [VRel] at h2
    subst h2
    refine ⟨?_, h1⟩
    congr 2
    exact decide_eq_decide.2 (by omega)
  refine (Tryz.strings_FieldsFunc_grows g #[] he (fun x => decide (x = 32)) (sb t) w (by rw [sb_size]; omega) hp).mono ?_
  rintro e w' ⟨A, rfl, hA, hown, hbel⟩
  have hfe := fields_eq ha (fun x => decide (x = 32)) (fun _ => rfl)
  rw [hfe, List.length_map, List.map_map] at hown
  rw [hfe, List.length_map]
  obtain ⟨r1, r2, r3⟩ := own_rel ht hbel hA rfl hown
  refine ⟨_, _, _, _, rfl, hbel, r1, r2, fun k hk => by rw [r3 k hk]; exact hA, rfl, fun b blk hb => ?_, 0, 0, _, false, _, rfl, rfl, ?_, ?_, strs_vals _⟩
  · simp only [Heap.one] at hb
    split at hb
    · obtain rfl : (⟨strs (wds t), false⟩ : Blk) = blk := by simpa using hb
      exact noRowL_strs _
    · simp at hb
  · simp only [List.drop_zero, Nat.mul_one]
    exact List.take_of_length_le (by rw [strs_length]; exact Nat.le_refl _)
  · simp only [strs_length]; omega
theorem strs_flat (L : List Wd) : (strs L).all flat = true := List.all_eq_true.2 fun x hx => by obtain ⟨y, _, rfl⟩ := List.mem_map.1 hx; rfl
section
variable {P : Program}
/-- A body whose result may be what came in, where that is empty. -/
theorem PCall.of_bodyN {f : FuncId} {fn : Func} {c : Code} {args : List SV} {T : SV} (hf : P.funcs[f]? = some fn) (hb : fn.body = some c) (hname : (fn.name == "runtime.NumGoroutine") = false) (hn : args.length ≤ fn.ntmps)
    (h : SW P fn.ntmps c (retQ P fn.results.toList (fun r H => Fin (fun r H => ∃ fu, view H fu r = some T) r H ∨ (T = .row 0 false [] ∧ ∃ ex, r = .row 0 ex []))) ⟨ofArgs args, Heap.empty⟩) : PCall P f args T := by
  refine ⟨enters_of hf hb hname, fun w vs hl ht => ?_⟩
  have hl' : LRel (OwnR noj Heap.empty) w noj args vs := LRel.tr (Tr.weaken w (fun k hk => (noOwn_empty k hk).elim)) (fun _ _ h => h) args vs hl
  refine (body_calls hf hb hn (Rel.empty w ht) hl' h).mono ?_
  rintro e w' ⟨r, v, j, H, rfl, h2, h3, h4, h5⟩
  refine ⟨v, rfl, h4.below, ?_⟩
  rcases h5 with ⟨H2, h5, h6, h7, fu, h8⟩ | ⟨rfl, ex, rfl⟩
  · have hsub : ∀ k, OwnR j H2 k → OwnR j H k := by
      rintro k ⟨b, blk, base, g1, g2⟩
      refine ⟨b, blk, base, ?_, g2⟩
      rcases h5.map b with e | e
      · rw [e] at g1; simp at g1
      · rw [← e]; exact g1
    have hlive : Live (fun k => k < w.heap.size) j H2 w' := (h2.sub h5).liveN h7 (fun k hk => by
      rcases h4.own k (hsub k hk) with o | o
      · exact (noOwn_empty k o).elim
      · omega)
    exact view_sound hlive fu r T v h8 (VRel.anyO r v h6 h3)
  · simp only [VRel] at h3 ⊢
    obtain ⟨a, cap, rfl, g1, g2, g3⟩ := h3
    refine ⟨a, cap, rfl, g1, by simp, ?_⟩
    rcases g3 with g3 | ⟨b, g3, _⟩
    · exact .inl g3
    · exact .inr ⟨b, g3, by simp only [CRel]⟩
end
theorem nil_row {O : Nat → Prop} {w : World} {j : JMap} {v : Value} (h : VRel O w j (rst []) v) : ∃ a cap, v = .slice a 0 cap ∧ (a = none → cap = 0) := by
  simp only [rst, strs_nil, List.length_nil, VRel] at h
  obtain ⟨a, cap, rfl, g1, g2, g3⟩ := h
  refine ⟨a, cap, rfl, fun h => ?_⟩
  rcases g3 with ⟨_, _, g, _⟩ | ⟨b, g, _⟩
  · exact g
  · rw [h] at g; cases g
theorem row_nil {O : Nat → Prop} {w : World} {j : JMap} {a : Option Addr} {cap : Nat} (h : a = none → cap = 0) : VRel O w j (rst []) (.slice a 0 cap) := by
  simp only [rst, strs_nil, List.length_nil, VRel]
  refine ⟨a, cap, rfl, Nat.zero_le _, by simp, ?_⟩
  cases a with
  | none => exact .inl (by simp [h rfl])
  | some b => exact .inr ⟨b, rfl, by simp only [CRel]⟩
theorem Tryz.cloneS_nil : PCall Tryz.prog 189 [rst []] (rst []) := by
  refine ⟨⟨_, Tryz.func189, rfl, rfl⟩, fun w vs hl ht => ?_⟩
  simp only [LRel] at hl
  obtain ⟨v, rest, rfl, hv, rfl⟩ := hl
  obtain ⟨a, cap, rfl, h0⟩ := nil_row hv
  cases a with
  | none =>
    refine (Tryz.slices_Clone_string_nil 0 cap w).mono ?_
    rintro e w' ⟨rfl, rfl⟩
    exact ⟨_, rfl, RowKit.Below.refl _ _, row_nil fun _ => rfl⟩
  | some a =>
    refine (Tryz.slices_Clone_string_zero a cap w).mono ?_
    rintro e w' ⟨v', rfl, ⟨_, hown⟩, hne, hbel⟩
    refine ⟨_, rfl, hbel, ?_⟩
    rcases hown with ⟨rfl, _⟩ | ⟨g, c2, cur, rfl, _⟩
    · exact absurd rfl hne
    · exact row_nil fun h => by cases h
theorem Tryz.sortS_nil : PCall Tryz.prog 190 [rst []] (.tup []) := by
  refine ⟨⟨_, Tryz.func190, rfl, rfl⟩, fun w vs hl ht => ?_⟩
  simp only [LRel] at hl
  obtain ⟨v, rest, rfl, hv, rfl⟩ := hl
  obtain ⟨a, cap, rfl, h0⟩ := nil_row hv
  refine (Tryz.slices_Sort_string_none a cap w).mono ?_
  rintro e w' ⟨rfl, rfl⟩
  exact ⟨_, rfl, RowKit.Below.refl _ _, by simp only [VRel, LRel]; exact ⟨[], rfl, rfl⟩⟩
theorem Tryz.compactS_nil : PCall Tryz.prog 191 [rst []] (rst []) := by
  refine ⟨⟨_, Tryz.func191, rfl, rfl⟩, fun w vs hl ht => ?_⟩
  simp only [LRel] at hl
  obtain ⟨v, rest, rfl, hv, rfl⟩ := hl
  obtain ⟨a, cap, rfl, h0⟩ := nil_row hv
  refine (Tryz.slices_Compact_string_empty a cap w).mono ?_
  rintro e w' ⟨rfl, rfl⟩
  exact ⟨_, rfl, RowKit.Below.refl _ _, row_nil h0⟩
theorem rst_nil : rst [] = .row 0 false [] := rfl
theorem Tryz.sortedSet_nil : PCall Tryz.prog 142 [rst []] (rst []) := by
  refine PCall.of_bodyN Tryz.func142 rfl (by kernel_rfl) (by simp [Tryz.ntmps142]) ?_
  refine SW_of_vc Tryz.mixed _ _ _ (by kernel_rfl) ?_
  have w1 := Tryz.cloneS_nil
  have w2 := Tryz.sortS_nil
  have w3 := Tryz.compactS_nil
  rw [rst_nil] at *
  simp (disch := omega) only [Tryz.ntmps142, Tryz.results142, go_sem]
  refine w1.callV 0 (viewL_cons_of view_row viewL_nil_of) ?_
  simp (disch := omega) only [Tryz.ntmps142, Tryz.results142, go_sem]
  refine w2.callV 0 (viewL_cons_of view_row viewL_nil_of) ?_
  simp (disch := omega) only [Tryz.ntmps142, Tryz.results142, go_sem]
  refine w3.callV 0 (viewL_cons_of view_row viewL_nil_of) ?_
  simp (disch := omega) only [Tryz.ntmps142, Tryz.results142, go_sem]
  exact .inr ⟨false, rfl⟩
set_option maxHeartbeats 1000000 in
theorem Tryz.cloneS_f (L : List Wd) (hL : L.length ≤ 1048576) (h0 : L ≠ []) : FCall Tryz.prog 189 [rst L] (FlatRes L.length 1 (strs L)) := by
  have hf := strs_flat L
  have hl := strs_length L
  have hlp : 0 < L.length := List.length_pos_iff.2 h0
  have ht : (strs L).take L.length = strs L := List.take_of_length_le (by omega)
  refine FCall.of_body Tryz.func189 rfl (by kernel_rfl) (by simp [Tryz.ntmps189]) ?_
  refine SW_of_vc Tryz.mixed _ _ _ (by kernel_rfl) ?_
  simp (disch := omega) only [Tryz.ntmps189, Tryz.results189, go_sem, rst, hf, hl, ht]
  exact fin_strs rfl (by first | rfl | (simp (disch := omega) only [hx_map, hp_map, xmap_blk, hmap_cons, xmap_skipI, xmap_nil, if_pos, if_neg, ↓reduceIte]; try rfl))
set_option maxHeartbeats 4000000 in
theorem Tryz.sortedSet_f (L : List Wd) (hL : L.length ≤ 1048576) (h0 : L ≠ []) : FCall Tryz.prog 142 [rst L] (FlatRes (sset L).length 1 (strs (sset L))) := by
  have wc := (Tryz.cloneS_f L hL h0).one
  have hl := msort_length L
  have hcs := compact_sset L
  have hm0 : msort L ≠ [] := fun e => h0 (by rw [e] at hl; exact List.length_eq_zero_iff.1 hl.symm)
  refine FCall.of_body Tryz.func142 rfl (by kernel_rfl) (by simp [Tryz.ntmps142]) ?_
  refine SW_of_vc Tryz.mixed _ _ _ (by kernel_rfl) ?_
  simp (disch := omega) only [Tryz.ntmps142, Tryz.results142, go_sem, rst]
  refine wc.callOne (strs_vals _) 0 (viewL_cons_of view_row viewL_nil_of) ?_
  simp (disch := omega) only [Tryz.ntmps142, Tryz.results142, go_sem, rst]
  refine (Tryz.sort_ok _ _ _ _ false L h0 hL (by first | rfl | (simp (disch := omega) only [hx_map, hp_map, xmap_blk, hmap_cons, xmap_skipI, xmap_nil, if_pos, if_neg, ↓reduceIte]; try rfl))).callX ?_
  rintro r H' ⟨rfl, rfl⟩
  have wk := Tryz.compact_ok (hp [(0, ⟨strs (msort L), false⟩)] 1) 0 L.length false false (msort L) hm0 (by omega) rfl
  rw [hl, hcs] at wk
  simp (disch := omega) only [Tryz.ntmps142, Tryz.results142, go_sem, rst]
  refine wk.callX ?_
  rintro r H' ⟨rfl, rfl⟩
  simp (disch := omega) only [Tryz.ntmps142, Tryz.results142, go_sem, rst]
  have hcp : cpc (msort L) = sset L ++ List.replicate (L.length - (sset L).length) [] := by rw [cpc, hl, hcs]
  refine Fin.own (blk := ⟨strs (cpc (msort L)), false⟩) rfl (isVal_noRow (strs_vals _)) ⟨0, 0, L.length, false, ⟨strs (cpc (msort L)), false⟩, rfl, by simp, ?_, ?_, strs_vals _⟩
  · rw [List.drop_zero, Nat.mul_one, hcp, ← strs_append, List.take_left' (strs_length _)]
  · simp only [strs_length]; rw [hcp]; simp
set_option maxHeartbeats 2000000 in
theorem Tryz.words1_ok (x : Int) : PCall Tryz.prog 193 [.val (.int .i32 x)] (.val (.bool (decide (x = 32)))) := by
  refine FCall.pcall (R := fun r _ => r = .val (.bool (decide (x = 32)))) ?_ 0 (by rintro r H rfl; exact view_bool)
  refine FCall.of_body Tryz.func193 rfl (by kernel_rfl) (by simp [Tryz.ntmps193]) ?_
  refine SW_of_vc Tryz.mixed _ _ _ (by kernel_rfl) ?_
  have e : decide (x = 32) = (x == 32) := by rw [Bool.eq_iff_iff]; simp
  rw [e]
  simp (disch := omega) only [Tryz.ntmps193, Tryz.results193, go_sem]
  exact Fin.val rfl
set_option maxHeartbeats 2000000 in
theorem Tryz.words_f (t : List UInt8) (ht : t.length ≤ 1048576) (ha : ∀ c ∈ t, c.toNat < 128) : FCall Tryz.prog 192 [str t, .clos (.func 193) [] []] (FlatRes (wds t).length 1 (strs (wds t))) :=
  Tryz.fields_f 193 t ht ha (fun x _ _ => Tryz.words1_ok x) (fun args w => by kernel_rfl)
set_option maxHeartbeats 2000000 in
theorem Tryz.implWords_ok (t : List UInt8) (ht : t.length ≤ 1048576) (ha : ∀ c ∈ t, c.toNat < 128) : PCall Tryz.prog 143 [str t] (rst (wds t)) := by
  refine FCall.pcall (R := FlatRes (wds t).length 1 (strs (wds t))) ?_ 1 (fun _ _ h => flat_viewS h)
  have w := (Tryz.words_f t ht ha).one
  generalize wds t = L at *
  refine FCall.of_body Tryz.func143 rfl (by kernel_rfl) (by simp [Tryz.ntmps143]) ?_
  refine SW_of_vc Tryz.mixed _ _ _ (by kernel_rfl) ?_
  simp (disch := omega) only [Tryz.ntmps143, Tryz.results143, go_sem]
  refine w.callOne (strs_vals _) 1 (viewL_cons_of view_str (viewL_cons_of (view_clos viewL_nil_of) viewL_nil_of)) ?_
  simp (disch := omega) only [Tryz.ntmps143, Tryz.results143, go_sem]
  exact fin_strs rfl (by first | rfl | (simp (disch := omega) only [hx_map, hp_map, xmap_blk, hmap_cons, xmap_skipI, xmap_nil, if_pos, if_neg, ↓reduceIte]; try rfl))
theorem nrm_asc {s : List UInt8} : ∀ c ∈ nrm s, c.toNat < 128 := fun c hc => by
  rcases nrm_mem hc with h | rfl
  · rcases Bool.or_eq_true_iff.1 h with g | g
    · have := rg_tt g; omega
    · have := rg_tt g; omega
  · decide
end Go.Sh

/-
  Sets of words compared: contracts.
-/
namespace Go.Sh
set_option linter.unusedSimpArgs false
set_option linter.unusedVariables false
open Go Go.Proofs

theorem ts_w {L : List Wd} (h : TS L) {k : Nat} (hk : k < L.length) : isTk (L.getD k []) = true := h.2 _ (by simp [List.getD, hk])
theorem ts_lt {L : List Wd} (h : TS L) {k : Nat} (hk : k + 1 < L.length) : L.getD k [] < L.getD (k + 1) [] := by
  have := List.pairwise_iff_getElem.1 h.1 k (k + 1) (by omega) hk (by omega)
  simpa [List.getD, hk, show k < L.length by omega] using this
theorem ne_nil_eq {w : Wd} (h : w ≠ []) : (w == []) = false := beq_eq_false_iff_ne.2 h
/-- Lists whose words are not too long. -/
def SL (L : List Wd) : Prop := L.length ≤ 1048576 ∧ ∀ w ∈ L, w.length ≤ 1048576
theorem sl_w {L : List Wd} (h : SL L) {k : Nat} (hk : k < L.length) : (L.getD k []).length ≤ 1048576 := h.2 _ (by simp [List.getD, hk])
set_option maxHeartbeats 8000000 in
theorem Tryz.specITS_ok (L : List Wd) (hL : SL L) (h : TS L) : PCall Tryz.prog 204 [rst L] (.val (.bool true)) := by
  refine FCall.pcall (R := fun r _ => r = .val (.bool true)) ?_ 0 (by rintro r H rfl; exact view_bool)
  refine FCall.of_body Tryz.func204 rfl (by kernel_rfl) (by simp [Tryz.ntmps204]) ?_
  refine SW_of_vc Tryz.mixed _ _ _ (by kernel_rfl) ?_
  have hl := hL.1
  have lC := strs_length L
  simp (disch := omega) only [Tryz.ntmps204, Tryz.results204, go_sem, rst]
  refine LoopW.loop (fun i : Nat => ⟨ofL [(0, rst L), (3, .val (.int .i64 i))], hp [] 0⟩) (fun i => i ≤ L.length) (fun i => L.length - i) 0 (by omega) (Wk.of (by simp only [go_sem, ↓List.forall_mem_cons, List.not_mem_nil, false_implies, implies_true, and_true, true_and, and_self, ri_eq, Int.natCast_add, Int.cast_ofNat_Int, rst]; try simp) rfl) ?_
  intro i hi
  refine SW_of_vc Tryz.mixed _ _ _ (by kernel_rfl) ?_
  by_cases hlt : i < L.length
  · have hg := strs_get hlt
    have htk := ts_w h hlt
    have hwl := sl_w hL hlt
    have hne := ne_nil_eq (tk_ne htk)
    have hfold := tk_fold htk
    have hcs := fun k hk => tk_c (k := k) htk hk
    have hprev : ∀ p, i = p + 1 → L.getD p [] < L.getD i [] := fun p hp => by subst hp; exact ts_lt h hlt
    generalize L.getD i [] = w at *
    have wf := Tryz.specFold_ok w hwl
    rw [hfold] at wf
    have ebb : (w == w) = true := beq_self_eq_true w
    rcases Nat.eq_zero_or_pos i with hz | hpp
    · simp (disch := omega) only [Tryz.ntmps204, Tryz.results204, go_sem, rst, hg, lC, hne]
      refine LoopW.loop (fun k : Nat => ⟨ofL [(0, rst L), (3, .val (.int .i64 (i : Nat))), (4, .val (.int .i64 k))], hp [] 0⟩) (fun k => k ≤ w.length) (fun k => w.length - k) 0 (by omega) (Wk.of (by simp only [go_sem, ↓List.forall_mem_cons, List.not_mem_nil, false_implies, implies_true, and_true, true_and, and_self, ri_eq, Int.natCast_add, Int.cast_ofNat_Int, rst]; try simp) rfl) ?_
      intro k hk
      refine SW_of_vc Tryz.mixed _ _ _ (by kernel_rfl) ?_
      by_cases hkl : k < w.length
      · have hc := hcs k hkl
        have wl := Tryz.l2Word_ok (w.getD k 0)
        rw [tk_wd hc] at wl
        have hb := u8arg (w.getD k 0)
        have hix := sb_ix hkl
        simp (disch := omega) only [Tryz.ntmps204, Tryz.results204, go_sem, rst, hg, lC, hix, ebb]
        refine wl.callDV 0 (viewL_cons_of (view_int) viewL_nil_of) ?_
        simp (disch := omega) only [Tryz.ntmps204, Tryz.results204, go_sem, rst, hg, lC, hix, ebb]
        refine wf.callDV 0 (viewL_cons_of view_str viewL_nil_of) ?_
        simp (disch := omega) only [Tryz.ntmps204, Tryz.results204, go_sem, rst, hg, lC, hix, ebb]
        exact ⟨k + 1, hkl, by omega, Wk.of (by simp only [go_sem, ↓List.forall_mem_cons, List.not_mem_nil, false_implies, implies_true, and_true, true_and, and_self, ri_eq, Int.natCast_add, Int.cast_ofNat_Int, rst]; try simp) rfl⟩
      · simp (disch := omega) only [Tryz.ntmps204, Tryz.results204, go_sem, rst, hg, lC]
        exact ⟨i + 1, hlt, by omega, Wk.of (by simp only [go_sem, ↓List.forall_mem_cons, List.not_mem_nil, false_implies, implies_true, and_true, true_and, and_self, ri_eq, Int.natCast_add, Int.cast_ofNat_Int, rst]; try simp) rfl⟩
    · obtain ⟨p, rfl⟩ : ∃ p, i = p + 1 := ⟨i - 1, by omega⟩
      have hpc : ((p + 1 : Nat) : Int) - 1 = (p : Int) := by omega
      have hgp := strs_get (L := L) (k := p) (by omega)
      have hd := decide_eq_true (hprev p rfl)
      simp (disch := omega) only [Tryz.ntmps204, Tryz.results204, go_sem, rst, hg, lC, hne, hpc, hgp, hd]
      refine LoopW.loop (fun k : Nat => ⟨ofL [(0, rst L), (3, .val (.int .i64 (p + 1 : Nat))), (4, .val (.int .i64 k))], hp [] 0⟩) (fun k => k ≤ w.length) (fun k => w.length - k) 0 (by omega) (Wk.of (by simp only [go_sem, ↓List.forall_mem_cons, List.not_mem_nil, false_implies, implies_true, and_true, true_and, and_self, ri_eq, Int.natCast_add, Int.cast_ofNat_Int, rst]; try simp) rfl) ?_
      intro k hk
      refine SW_of_vc Tryz.mixed _ _ _ (by kernel_rfl) ?_
      by_cases hkl : k < w.length
      · have hc := hcs k hkl
        have wl := Tryz.l2Word_ok (w.getD k 0)
        rw [tk_wd hc] at wl
        have hb := u8arg (w.getD k 0)
        have hix := sb_ix hkl
        simp (disch := omega) only [Tryz.ntmps204, Tryz.results204, go_sem, rst, hg, lC, hix, ebb]
        refine wl.callDV 0 (viewL_cons_of (view_int) viewL_nil_of) ?_
        simp (disch := omega) only [Tryz.ntmps204, Tryz.results204, go_sem, rst, hg, lC, hix, ebb]
        refine wf.callDV 0 (viewL_cons_of view_str viewL_nil_of) ?_
        simp (disch := omega) only [Tryz.ntmps204, Tryz.results204, go_sem, rst, hg, lC, hix, ebb]
        exact ⟨k + 1, hkl, by omega, Wk.of (by simp only [go_sem, ↓List.forall_mem_cons, List.not_mem_nil, false_implies, implies_true, and_true, true_and, and_self, ri_eq, Int.natCast_add, Int.cast_ofNat_Int, rst]; try simp) rfl⟩
      · simp (disch := omega) only [Tryz.ntmps204, Tryz.results204, go_sem, rst, hg, lC]
        exact ⟨p + 1 + 1, hlt, by omega, Wk.of (by simp only [go_sem, ↓List.forall_mem_cons, List.not_mem_nil, false_implies, implies_true, and_true, true_and, and_self, ri_eq, Int.natCast_add, Int.cast_ofNat_Int, rst]; try simp) rfl⟩
  · simp (disch := omega) only [Tryz.ntmps204, Tryz.results204, go_sem, rst]
    exact Fin.val rfl
set_option maxHeartbeats 4000000 in
theorem Tryz.isAlnum_ok (w : Wd) (hw : w.length ≤ 1048576) (h : isTk w = true) : PCall Tryz.prog 252 [str w] (.val (.bool true)) := by
  refine FCall.pcall (R := fun r _ => r = .val (.bool true)) ?_ 0 (by rintro r H rfl; exact view_bool)
  refine FCall.of_body Tryz.func252 rfl (by kernel_rfl) (by simp [Tryz.ntmps252]) ?_
  refine SW_of_vc Tryz.mixed _ _ _ (by kernel_rfl) ?_
  simp (disch := omega) only [Tryz.ntmps252, Tryz.results252, go_sem]
  refine LoopW.loop (fun i : Nat => ⟨ofL [(0, str w), (5, .val (.int .i64 w.length)), (6, .val (.int .i64 i))], hp [] 0⟩) (fun i => i ≤ w.length) (fun i => w.length - i) 0 (by omega) (Wk.of (by simp only [go_sem, ↓List.forall_mem_cons, List.not_mem_nil, false_implies, implies_true, and_true, true_and, and_self, ri_eq, Int.natCast_add, Int.cast_ofNat_Int]; try simp) rfl) ?_
  intro i hi
  refine SW_of_vc Tryz.mixed _ _ _ (by kernel_rfl) ?_
  by_cases hlt : i < w.length
  · have hc := tk_c h hlt
    have hix := sb_ix hlt
    have w1 := Tryz.isSmall_ok (w.getD i 0)
    have w2 := Tryz.isDigit_ok (w.getD i 0)
    have hb := u8arg (w.getD i 0)
    cases hs : isSm (w.getD i 0) with
    | true =>
      rw [hs] at w1
      simp (disch := omega) only [Tryz.ntmps252, Tryz.results252, go_sem, hix]
      refine w1.callV 0 (viewL_cons_of (view_int) viewL_nil_of) ?_
      simp (disch := omega) only [Tryz.ntmps252, Tryz.results252, go_sem, hix]
      exact ⟨i + 1, hlt, by omega, Wk.of (by simp only [go_sem, ↓List.forall_mem_cons, List.not_mem_nil, false_implies, implies_true, and_true, true_and, and_self, ri_eq, Int.natCast_add, Int.cast_ofNat_Int]; try simp) rfl⟩
    | false =>
      rw [hs, Bool.false_or] at hc
      rw [hs] at w1
      rw [hc] at w2
      simp (disch := omega) only [Tryz.ntmps252, Tryz.results252, go_sem, hix]
      refine w1.callV 0 (viewL_cons_of (view_int) viewL_nil_of) ?_
      simp (disch := omega) only [Tryz.ntmps252, Tryz.results252, go_sem, hix]
      refine w2.callV 0 (viewL_cons_of (view_int) viewL_nil_of) ?_
      simp (disch := omega) only [Tryz.ntmps252, Tryz.results252, go_sem, hix]
      exact ⟨i + 1, hlt, by omega, Wk.of (by simp only [go_sem, ↓List.forall_mem_cons, List.not_mem_nil, false_implies, implies_true, and_true, true_and, and_self, ri_eq, Int.natCast_add, Int.cast_ofNat_Int]; try simp) rfl⟩
  · simp (disch := omega) only [Tryz.ntmps252, Tryz.results252, go_sem]
    exact Fin.val rfl
set_option maxHeartbeats 8000000 in
theorem Tryz.implITS_ok (L : List Wd) (hL : SL L) (h : TS L) : PCall Tryz.prog 226 [rst L] (.val (.bool true)) := by
  refine FCall.pcall (R := fun r _ => r = .val (.bool true)) ?_ 0 (by rintro r H rfl; exact view_bool)
  refine FCall.of_body Tryz.func226 rfl (by kernel_rfl) (by simp [Tryz.ntmps226]) ?_
  refine SW_of_vc Tryz.mixed _ _ _ (by kernel_rfl) ?_
  have hl := hL.1
  have lC := strs_length L
  simp (disch := omega) only [Tryz.ntmps226, Tryz.results226, go_sem, rst]
  refine LoopW.loop (fun i : Nat => ⟨ofL [(0, rst L), (5, rst L), (6, .val (.int .i64 L.length)), (7, .val (.int .i64 i))], hp [] 0⟩) (fun i => i ≤ L.length) (fun i => L.length - i) 0 (by omega) (Wk.of (by simp only [go_sem, ↓List.forall_mem_cons, List.not_mem_nil, false_implies, implies_true, and_true, true_and, and_self, ri_eq, Int.natCast_add, Int.cast_ofNat_Int, rst]; try simp) rfl) ?_
  intro i hi
  refine SW_of_vc Tryz.mixed _ _ _ (by kernel_rfl) ?_
  by_cases hlt : i < L.length
  · have hg := strs_get hlt
    have htk := ts_w h hlt
    have hwl := sl_w hL hlt
    have hne := ne_nil_eq (tk_ne htk)
    have hprev : ∀ p, i = p + 1 → L.getD p [] < L.getD i [] := fun p hp => by subst hp; exact ts_lt h hlt
    have wa := Tryz.isAlnum_ok _ hwl htk
    generalize L.getD i [] = w at *
    rcases Nat.eq_zero_or_pos i with hz | hpp
    · simp (disch := omega) only [Tryz.ntmps226, Tryz.results226, go_sem, rst, hg, lC, hne]
      refine wa.callV 0 (viewL_cons_of view_str viewL_nil_of) ?_
      simp (disch := omega) only [Tryz.ntmps226, Tryz.results226, go_sem, rst, hg, lC, hne]
      exact ⟨i + 1, hlt, by omega, Wk.of (by simp only [go_sem, ↓List.forall_mem_cons, List.not_mem_nil, false_implies, implies_true, and_true, true_and, and_self, ri_eq, Int.natCast_add, Int.cast_ofNat_Int, rst]; try simp) rfl⟩
    · obtain ⟨p, rfl⟩ : ∃ p, i = p + 1 := ⟨i - 1, by omega⟩
      have hpc : ((p + 1 : Nat) : Int) - 1 = (p : Int) := by omega
      have hgp := strs_get (L := L) (k := p) (by omega)
      have hd := decide_eq_true (hprev p rfl)
      simp (disch := omega) only [Tryz.ntmps226, Tryz.results226, go_sem, rst, hg, lC, hne, hpc, hgp, hd]
      refine wa.callV 0 (viewL_cons_of view_str viewL_nil_of) ?_
      simp (disch := omega) only [Tryz.ntmps226, Tryz.results226, go_sem, rst, hg, lC, hne, hpc, hgp, hd]
      exact ⟨p + 1 + 1, hlt, by omega, Wk.of (by simp only [go_sem, ↓List.forall_mem_cons, List.not_mem_nil, false_implies, implies_true, and_true, true_and, and_self, ri_eq, Int.natCast_add, Int.cast_ofNat_Int, rst]; try simp) rfl⟩
  · simp (disch := omega) only [Tryz.ntmps226, Tryz.results226, go_sem, rst]
    exact Fin.val rfl
set_option maxHeartbeats 2000000 in
theorem Tryz.l5Sets_ok (A B : List Wd) (hA : SL A) (hB : SL B) (tA : TS A) (tB : TS B) : PCall Tryz.prog 160 [rst A, rst B] (.val (.bool true)) := by
  refine FCall.pcall (R := fun r _ => r = .val (.bool true)) ?_ 0 (by rintro r H rfl; exact view_bool)
  refine FCall.of_body Tryz.func160 rfl (by kernel_rfl) (by simp [Tryz.ntmps160]) ?_
  refine SW_of_vc Tryz.mixed _ _ _ (by kernel_rfl) ?_
  simp (disch := omega) only [Tryz.ntmps160, Tryz.results160, go_sem, rst]
  refine (Tryz.specITS_ok A hA tA).callV 0 (viewL_cons_of view_row viewL_nil_of) ?_
  simp (disch := omega) only [Tryz.ntmps160, Tryz.results160, go_sem, rst]
  refine (Tryz.specITS_ok B hB tB).callV 0 (viewL_cons_of view_row viewL_nil_of) ?_
  simp (disch := omega) only [Tryz.ntmps160, Tryz.results160, go_sem, rst]
  exact Fin.val rfl
set_option maxHeartbeats 2000000 in
theorem Tryz.areTS_ok (A B : List Wd) (hA : SL A) (hB : SL B) (tA : TS A) (tB : TS B) : PCall Tryz.prog 186 [rst A, rst B] (.val (.bool true)) := by
  refine FCall.pcall (R := fun r _ => r = .val (.bool true)) ?_ 0 (by rintro r H rfl; exact view_bool)
  refine FCall.of_body Tryz.func186 rfl (by kernel_rfl) (by simp [Tryz.ntmps186]) ?_
  refine SW_of_vc Tryz.mixed _ _ _ (by kernel_rfl) ?_
  simp (disch := omega) only [Tryz.ntmps186, Tryz.results186, go_sem, rst]
  refine (Tryz.implITS_ok A hA tA).callV 0 (viewL_cons_of view_row viewL_nil_of) ?_
  simp (disch := omega) only [Tryz.ntmps186, Tryz.results186, go_sem, rst]
  refine (Tryz.implITS_ok B hB tB).callV 0 (viewL_cons_of view_row viewL_nil_of) ?_
  simp (disch := omega) only [Tryz.ntmps186, Tryz.results186, go_sem, rst]
  exact Fin.val rfl
end Go.Sh

/-
  strconv.Atoi at every string: contracts.
-/
namespace Go.Sh
set_option linter.unusedSimpArgs false
set_option linter.unusedVariables false
open Go Go.Proofs

/-- What a cell of a sentinel holds. -/
def ErrV (v : Value) : Prop := v = .nilIface ∨ ∃ te pe, v = .iface te pe
theorem Tryz.errS {O : Nat → Prop} {w : World} (h : TabOk O w) : ∃ ev, w.cell? ⟨2, 0, none⟩ = some ev ∧ (ev = .nilIface ∨ ∃ te pe, ev = .iface te pe) := by
  obtain ⟨_, hc⟩ := h (2, [fun v => v = .nilIface ∨ ∃ te pe, v = .iface te pe]) (by simp [TABS])
  obtain ⟨v, h1, h2, _⟩ := hc 0 _ rfl
  exact ⟨v, h1, h2⟩
theorem Tryz.errR {O : Nat → Prop} {w : World} (h : TabOk O w) : ∃ ev, w.cell? ⟨3, 0, none⟩ = some ev ∧ (ev = .nilIface ∨ ∃ te pe, ev = .iface te pe) := by
  obtain ⟨_, hc⟩ := h (3, [fun v => v = .nilIface ∨ ∃ te pe, v = .iface te pe]) (by simp [TABS])
  obtain ⟨v, h1, h2, _⟩ := hc 0 _ rfl
  exact ⟨v, h1, h2⟩
theorem Tryz.atoi_t (s : List UInt8) (v : Int) (h : Lib.atoiAll s = .ok v) (hs : s.length ≤ 1048576) : PCall Tryz.prog 170 [str s] (.tup [.val (.int .i64 v), .val .nilIface]) := by
  refine ⟨⟨_, Tryz.func170, rfl, rfl⟩, fun w vs hl _ => ?_⟩
  simp only [LRel, VRel] at hl
  obtain ⟨x, rest, rfl, rfl, rfl⟩ := hl
  refine (Tryz.strconv_Atoi_ok (sb s) (by rw [sb_size]; omega) v (by rw [sb_data]; exact h) w).mono ?_
  rintro e w' ⟨rfl, hw⟩
  refine ⟨_, rfl, ?_, ?_⟩
  · rcases hw with rfl | ⟨t, rfl⟩
    · exact RowKit.Below.refl _ _
    · exact Lib.bytesWorld_below _ _ _
  · simp only [VRel, LRel]; exact ⟨[_, _], rfl, _, _, rfl, rfl, _, _, rfl, rfl, rfl⟩
theorem Tryz.atoi_n (s : List UInt8) (h : ∀ v, Lib.atoiAll s ≠ .ok v) (hs : s.length ≤ 1048576) : ∃ x : Int, PCall Tryz.prog 170 [str s] (.tup [.val (.int .i64 x), .iface 210 .undef]) := by
  cases hh : Lib.atoiAll s with
  | ok v => exact absurd hh (h v)
  | «syntax» =>
    refine ⟨0, ⟨_, Tryz.func170, rfl, rfl⟩, fun w vs hl ht => ?_⟩
    simp only [LRel, VRel] at hl
    obtain ⟨x, rest, rfl, rfl, rfl⟩ := hl
    obtain ⟨ev, h1, h2⟩ := Tryz.errS ht
    refine (Tryz.strconv_Atoi_syntax (sb s) (by rw [sb_size]; omega) (by rw [sb_data]; exact hh) ev w h1 h2).mono ?_
    rintro e w' ⟨N, rfl, _, _, hb⟩
    refine ⟨_, rfl, hb, ?_⟩
    simp only [VRel, LRel]; exact ⟨[_, _], rfl, _, _, rfl, rfl, _, _, rfl, ⟨_, rfl, trivial⟩, rfl⟩
  | range =>
    refine ⟨Lib.atoiSat s, ⟨_, Tryz.func170, rfl, rfl⟩, fun w vs hl ht => ?_⟩
    simp only [LRel, VRel] at hl
    obtain ⟨x, rest, rfl, rfl, rfl⟩ := hl
    obtain ⟨ev, h1, h2⟩ := Tryz.errR ht
    refine (Tryz.strconv_Atoi_range (sb s) (by rw [sb_size]; omega) (by rw [sb_data]; exact hh) ev w h1 h2).mono ?_
    rintro e w' ⟨N, rfl, _, _, hb⟩
    refine ⟨_, rfl, hb, ?_⟩
    simp only [VRel, LRel]; exact ⟨[_, _], by rw [sb_data], _, _, rfl, rfl, _, _, rfl, ⟨_, rfl, trivial⟩, rfl⟩
theorem atoiAll_i64 {s : List UInt8} {v : Int} (h : Lib.atoiAll s = .ok v) : -9223372036854775808 ≤ v ∧ v ≤ 9223372036854775807 := by
  unfold Lib.atoiAll at h
  split at h
  · cases h
  · simp only at h
    split at h
    · cases h
    · cases h
    · split at h
      · cases h
      · split at h
        · cases h
        · simp only [Lib.NumEnd.ok.injEq] at h
          subst h
          split <;> omega
end Go.Sh

/-
  ParseInt: contracts of both.
-/
namespace Go.Sh
set_option linter.unusedSimpArgs false
set_option linter.unusedVariables false
open Go Go.Proofs

theorem fin_pr {R : SV → Heap → Prop} {a b : Value} {H : Heap} (h : R (.tup [.val a, .val b]) ⟨fun _ => none, H.nb⟩) : Fin R (.tup [.val a, .val b]) H :=
  ⟨⟨fun _ => none, H.nb⟩, ⟨rfl, fun _ => .inl rfl⟩, by simp [noRow, noRowL], fun b blk hb => by simp at hb, h⟩
abbrev pIR (s : List UInt8) : SV := .tup [.val (.int .i64 ((pint s).getD 0)), .val (.bool (pint s).isSome)]
theorem view_pr {H : Heap} {f : Nat} {k : IntKind} {n : Int} {b : Bool} : view H (f + 1) (.tup [.val (.int k n), .val (.bool b)]) = some (.tup [.val (.int k n), .val (.bool b)]) := by
  have h1 : viewL H f [.val (.int k n), .val (.bool b)] = some [.val (.int k n), .val (.bool b)] := viewL_cons_of view_int (viewL_cons_of view_bool viewL_nil_of)
  simp only [view, h1]
theorem fin_pI {s : List UInt8} {o : Option Int} {n : Int} {b : Bool} {H : Heap} (hp : pint s = o) (hn : n = o.getD 0) (hb : b = o.isSome) : Fin (fun r _ => r = pIR s) (.tup [.val (.int .i64 n), .val (.bool b)]) H :=
  fin_pr (by unfold pIR; rw [hp, hn, hb])
theorem take_succD {s : List UInt8} {i : Nat} (h : i < s.length) : s.take (i + 1) = s.take i ++ [s.getD i 0] := by
  rw [List.take_add_one, List.getElem?_eq_getElem h]; simp [List.getD, h]
theorem dval_succ {s : List UInt8} {i : Nat} (h : i < s.length) : dval (s.take (i + 1)) = dstep (dval (s.take i)) (s.getD i 0) := by
  rw [take_succD h, dval, List.foldl_append]; rfl
theorem dcnt_succ {s : List UInt8} {i : Nat} (h : i < s.length) : dcnt (s.take (i + 1)) = dcnt (s.take i) + if dgt (s.getD i 0) = true then 1 else 0 := by
  rw [take_succD h, dcnt, List.countP_append, List.countP_singleton]; rfl
theorem dcnt_le (s : List UInt8) (i : Nat) : dcnt (s.take i) ≤ i := by
  refine Nat.le_trans List.countP_le_length ?_
  rw [List.length_take]; omega
theorem dval_b {s : List UInt8} {i : Nat} (h : i ≤ 11) : dval (s.take i) < 100000000000 := by
  have h1 := dval_lt (s.take i)
  have h2 := pow10_le (k := dcnt (s.take i)) (m := 11) (by have := dcnt_le s i; omega)
  omega
theorem dval_b10 {s : List UInt8} {i : Nat} (h : i ≤ 10) : dval (s.take i) < 10000000000 := by
  have h1 := dval_lt (s.take i)
  have h2 := pow10_le (k := dcnt (s.take i)) (m := 10) (by have := dcnt_le s i; omega)
  omega
theorem pint_t {s : List UInt8} (h1 : dcnt s ≤ 9) (h2 : s.length ≤ 10) (h3 : Lib.itoa (nval s) = s) : pint s = some (nval s) := by rw [pint, if_pos ⟨h1, h2, h3⟩]
theorem pint_f {s : List UInt8} (h : ¬ (dcnt s ≤ 9 ∧ s.length ≤ 10 ∧ Lib.itoa (nval s) = s)) : pint s = none := by rw [pint, if_neg h]
theorem sb_ix0 {s : List UInt8} (h : 0 < s.length) : (if h : 0 < s.length then some (SV.val (.int .u8 ((sb s)[0]'(by rw [sb_size]; exact h)).toNat)) else none) = some (.val (.int .u8 (s.getD 0 0).toNat)) := by
  rw [dif_pos h]
  simp [sb, ByteArray.getElem_eq_getElem_data, h]
set_option maxHeartbeats 4000000 in
theorem Tryz.specPI_ok (s : List UInt8) (hs : s.length ≤ 1048576) : PCall Tryz.prog 121 [str s] (pIR s) := by
  refine FCall.pcall (R := fun r _ => r = pIR s) ?_ 1 (by rintro r H rfl; exact view_pr)
  refine FCall.of_body Tryz.func121 rfl (by kernel_rfl) (by simp [Tryz.ntmps121]) ?_
  refine SW_of_vc Tryz.mixed _ _ _ (by kernel_rfl) ?_
  simp (disch := omega) only [Tryz.ntmps121, Tryz.results121, go_sem]
  refine LoopW.loop (fun i : Nat => ⟨ofL [(0, str s), (4, .val (.int .i64 (dval (s.take i)))), (5, .val (.int .i64 (dcnt (s.take i)))), (6, .val (.int .i64 i))], hp [] 0⟩) (fun i => i ≤ s.length ∧ i ≤ 11) (fun i => 11 - i) 0 (by omega) (Wk.of (by simp only [go_sem, ↓List.forall_mem_cons, List.not_mem_nil, false_implies, implies_true, and_true, true_and, and_self, ri_eq, Int.natCast_add, Int.cast_ofNat_Int, List.take_zero, show dval [] = 0 from rfl, show dcnt [] = 0 from rfl]; try simp) rfl) ?_
  rintro i ⟨hi, hi11⟩
  have hb11 := dval_b (s := s) hi11
  have hc11 := dcnt_le s i
  refine SW_of_vc Tryz.mixed _ _ _ (by kernel_rfl) ?_
  by_cases hlt : i < s.length ∧ i < 11
  · obtain ⟨hlt, hlt11⟩ := hlt
    have hix := sb_ix hlt
    have hb10 := dval_b10 (s := s) (i := i) (by omega)
    have hvs := dval_succ hlt
    have hcs := dcnt_succ hlt
    have hc8 : (s.getD i 0).toNat < 256 := UInt8.toNat_lt _
    generalize s.getD i 0 = c at *
    by_cases hd1 : 48 ≤ c.toNat
    · by_cases hd2 : c.toNat ≤ 57
      · have hd : dgt c = true := by simp only [dgt, decide_eq_true_eq]; omega
        rw [dstep, if_pos hd] at hvs
        rw [if_pos hd] at hcs
        have hz : ((dval (s.take i) : Int) * 10 + ((c.toNat : Int) - 48)) = ((dval (s.take i) * 10 + (c.toNat - 48) : Nat) : Int) := by omega
        have h8 : IntKind.u8.wrap ((c.toNat : Int) - 48) = (c.toNat : Int) - 48 := by rw [IntKind.wrap_u8]; omega
        simp (disch := omega) only [Tryz.ntmps121, Tryz.results121, go_sem, hix, h8, hz]
        exact ⟨i + 1, by omega, by omega, Wk.of (by simp only [go_sem, ↓List.forall_mem_cons, List.not_mem_nil, false_implies, implies_true, and_true, true_and, and_self, ri_eq, Int.natCast_add, Int.cast_ofNat_Int, hvs, hcs]; try simp) rfl⟩
      · have hd : dgt c = false := by simp only [dgt, decide_eq_false_iff_not]; omega
        rw [dstep, if_neg (by simp [hd])] at hvs
        rw [if_neg (by simp [hd])] at hcs
        simp (disch := omega) only [Tryz.ntmps121, Tryz.results121, go_sem, hix]
        exact ⟨i + 1, by omega, by omega, Wk.of (by simp only [go_sem, ↓List.forall_mem_cons, List.not_mem_nil, false_implies, implies_true, and_true, true_and, and_self, ri_eq, Int.natCast_add, Int.cast_ofNat_Int, hvs, hcs]; try simp) rfl⟩
    · have hd : dgt c = false := by simp only [dgt, decide_eq_false_iff_not]; omega
      rw [dstep, if_neg (by simp [hd])] at hvs
      rw [if_neg (by simp [hd])] at hcs
      simp (disch := omega) only [Tryz.ntmps121, Tryz.results121, go_sem, hix]
      exact ⟨i + 1, by omega, by omega, Wk.of (by simp only [go_sem, ↓List.forall_mem_cons, List.not_mem_nil, false_implies, implies_true, and_true, true_and, and_self, ri_eq, Int.natCast_add, Int.cast_ofNat_Int, hvs, hcs]; try simp) rfl⟩
  · have hex : i < s.length → i = 11 := by omega
    by_cases h0 : s = []
    · have hsv : nval s = (dval s : Int) := by subst h0; rfl
      subst h0
      obtain rfl : i = 0 := by simpa using hi
      have hp : pint [] = none := pint_nil
      have hw := Tryz.specFI_ok 0 (by omega) (by omega)
      have he2 : (Lib.itoa 0 == ([] : List UInt8)) = false := by
        rw [Lib.itoa, if_neg (by decide), Lib.decDigits, dif_pos (by decide)]; decide
      simp (disch := omega) only [Tryz.ntmps121, Tryz.results121, go_sem, List.take_nil, List.length_nil, show dval [] = 0 from rfl, show dcnt [] = 0 from rfl]
      refine hw.callV 0 (viewL_cons_of (view_int) viewL_nil_of) ?_
      simp (disch := omega) only [Tryz.ntmps121, Tryz.results121, go_sem, he2, Bool.not_false]
      exact fin_pI hp rfl rfl
    have hl0 : 0 < s.length := List.length_pos_iff.2 h0
    have hix0 := sb_ix0 hl0
    have hhd : s.head? = some (s.getD 0 0) := by
      cases s with
      | nil => exact absurd rfl h0
      | cons c r => rfl
    by_cases hm : s.getD 0 0 = 45
    · have hsv : nval s = 0 - (dval s : Int) := by rw [nval, if_pos (by rw [hhd, hm])]; omega
      rw [hm] at hix0
      have hm2 : (((45 : UInt8).toNat : Int) == 45) = true := by decide
      by_cases hl10 : 10 < s.length
      · have hp : pint s = none := pint_f (by omega)
        by_cases hls : i < s.length
        · have hi11b := hex hls
          by_cases hk9 : 9 < dcnt (s.take i)
          · simp (disch := omega) only [Tryz.ntmps121, Tryz.results121, go_sem, hix0, hm2]
            exact fin_pI hp rfl rfl
          · simp (disch := omega) only [Tryz.ntmps121, Tryz.results121, go_sem, hix0, hm2]
            exact fin_pI hp rfl rfl
        · by_cases hk9 : 9 < dcnt (s.take i)
          · simp (disch := omega) only [Tryz.ntmps121, Tryz.results121, go_sem, hix0, hm2]
            exact fin_pI hp rfl rfl
          · simp (disch := omega) only [Tryz.ntmps121, Tryz.results121, go_sem, hix0, hm2]
            exact fin_pI hp rfl rfl
      obtain rfl : i = s.length := by omega
      rw [List.take_length] at hb11 hc11
      by_cases hk9 : 9 < dcnt s
      · have hp : pint s = none := pint_f (by omega)
        simp (disch := omega) only [Tryz.ntmps121, Tryz.results121, go_sem, hix0, hm2, List.take_length]
        exact fin_pI hp rfl rfl
      have hb : dval s < 1000000000 := by
        have h1 := dval_lt s
        have h2 := pow10_le (k := dcnt s) (m := 9) (by omega)
        omega
      have hw := Tryz.specFI_ok (nval s) (by rw [hsv]; omega) (by rw [hsv]; omega)
      rw [hsv] at hw
      by_cases he : Lib.itoa (nval s) = s
      · have hp := pint_t (by omega) (by omega) he
        rw [hsv] at he hp
        simp (disch := omega) only [Tryz.ntmps121, Tryz.results121, go_sem, hix0, hm2, List.take_length]
        refine hw.callV 0 (viewL_cons_of (view_int) viewL_nil_of) ?_
        simp (disch := omega) only [Tryz.ntmps121, Tryz.results121, go_sem, he, beq_self_eq_true, Bool.not_true]
        exact fin_pI hp (by first | rfl | (simp only [List.take_length]; rfl)) rfl
      · have hp : pint s = none := pint_f (fun h => he h.2.2)
        rw [hsv] at he
        have he2 := beq_eq_false_iff_ne.2 he
        simp (disch := omega) only [Tryz.ntmps121, Tryz.results121, go_sem, hix0, hm2, List.take_length]
        refine hw.callV 0 (viewL_cons_of (view_int) viewL_nil_of) ?_
        simp (disch := omega) only [Tryz.ntmps121, Tryz.results121, go_sem, he2, Bool.not_false]
        exact fin_pI hp rfl rfl
    · have hsv : nval s = (dval s : Int) := by rw [nval, if_neg (by rw [hhd]; intro h; exact hm (Option.some.inj h))]
      have hm2 : (((s.getD 0 0).toNat : Int) == 45) = false := by
        rw [beq_eq_false_iff_ne]; intro h
        exact hm (UInt8.toNat_inj.1 (by exact_mod_cast h))
      by_cases hl10 : 10 < s.length
      · have hp : pint s = none := pint_f (by omega)
        by_cases hls : i < s.length
        · have hi11b := hex hls
          by_cases hk9 : 9 < dcnt (s.take i)
          · simp (disch := omega) only [Tryz.ntmps121, Tryz.results121, go_sem, hix0, hm2]
            exact fin_pI hp rfl rfl
          · simp (disch := omega) only [Tryz.ntmps121, Tryz.results121, go_sem, hix0, hm2]
            exact fin_pI hp rfl rfl
        · by_cases hk9 : 9 < dcnt (s.take i)
          · simp (disch := omega) only [Tryz.ntmps121, Tryz.results121, go_sem, hix0, hm2]
            exact fin_pI hp rfl rfl
          · simp (disch := omega) only [Tryz.ntmps121, Tryz.results121, go_sem, hix0, hm2]
            exact fin_pI hp rfl rfl
      obtain rfl : i = s.length := by omega
      rw [List.take_length] at hb11 hc11
      by_cases hk9 : 9 < dcnt s
      · have hp : pint s = none := pint_f (by omega)
        simp (disch := omega) only [Tryz.ntmps121, Tryz.results121, go_sem, hix0, hm2, List.take_length]
        exact fin_pI hp rfl rfl
      have hb : dval s < 1000000000 := by
        have h1 := dval_lt s
        have h2 := pow10_le (k := dcnt s) (m := 9) (by omega)
        omega
      have hw := Tryz.specFI_ok (nval s) (by rw [hsv]; omega) (by rw [hsv]; omega)
      rw [hsv] at hw
      by_cases he : Lib.itoa (nval s) = s
      · have hp := pint_t (by omega) (by omega) he
        rw [hsv] at he hp
        simp (disch := omega) only [Tryz.ntmps121, Tryz.results121, go_sem, hix0, hm2, List.take_length]
        refine hw.callV 0 (viewL_cons_of (view_int) viewL_nil_of) ?_
        simp (disch := omega) only [Tryz.ntmps121, Tryz.results121, go_sem, he, beq_self_eq_true, Bool.not_true]
        exact fin_pI hp (by first | rfl | (simp only [List.take_length]; rfl)) rfl
      · have hp : pint s = none := pint_f (fun h => he h.2.2)
        rw [hsv] at he
        have he2 := beq_eq_false_iff_ne.2 he
        simp (disch := omega) only [Tryz.ntmps121, Tryz.results121, go_sem, hix0, hm2, List.take_length]
        refine hw.callV 0 (viewL_cons_of (view_int) viewL_nil_of) ?_
        simp (disch := omega) only [Tryz.ntmps121, Tryz.results121, go_sem, he2, Bool.not_false]
        exact fin_pI hp rfl rfl
set_option maxHeartbeats 4000000 in
theorem Tryz.implPI_ok (s : List UInt8) (hs : s.length ≤ 1048576) : PCall Tryz.prog 126 [str s] (pIR s) := by
  refine FCall.pcall (R := fun r _ => r = pIR s) ?_ 1 (by rintro r H rfl; exact view_pr)
  refine FCall.of_body Tryz.func126 rfl (by kernel_rfl) (by simp [Tryz.ntmps126]) ?_
  refine SW_of_vc Tryz.mixed _ _ _ (by kernel_rfl) ?_
  by_cases hok : ∃ v, Lib.atoiAll s = .ok v
  · obtain ⟨v, hv⟩ := hok
    obtain ⟨v1, v2⟩ := atoiAll_i64 hv
    have wA := Tryz.atoi_t s v hv hs
    have wF := Tryz.implFI_ok v v1 v2
    have wW := Tryz.within_ok v (-999999999) 999999999
    by_cases he : Lib.itoa v = s
    · by_cases hr : -999999999 ≤ v ∧ v ≤ 999999999
      · have hp : pint s = some v := pint_of he hr.1 hr.2
        rw [inR_tt hr.1 hr.2] at wW
        simp (disch := omega) only [Tryz.ntmps126, Tryz.results126, go_sem]
        refine wA.callV 0 (viewL_cons_of view_str viewL_nil_of) ?_
        simp (disch := omega) only [Tryz.ntmps126, Tryz.results126, go_sem]
        refine wF.callV 0 (viewL_cons_of (view_int) viewL_nil_of) ?_
        simp (disch := omega) only [Tryz.ntmps126, Tryz.results126, go_sem, he, beq_self_eq_true, Bool.not_true]
        refine wW.callV 0 (viewL_cons_of (view_int) (viewL_cons_of (view_int) (viewL_cons_of (view_int) viewL_nil_of))) ?_
        simp (disch := omega) only [Tryz.ntmps126, Tryz.results126, go_sem]
        exact fin_pI hp rfl rfl
      · have hp : pint s = none := pint_none fun n h1 h2 h3 h4 => hr (by
          rw [hv] at h1
          simp only [Lib.NumEnd.ok.injEq] at h1
          omega)
        have e : inR v (-999999999) 999999999 = false := by
          cases h : inR v (-999999999) 999999999 with
          | false => rfl
          | true => exact absurd (inR_of h) hr
        rw [e] at wW
        simp (disch := omega) only [Tryz.ntmps126, Tryz.results126, go_sem]
        refine wA.callV 0 (viewL_cons_of view_str viewL_nil_of) ?_
        simp (disch := omega) only [Tryz.ntmps126, Tryz.results126, go_sem]
        refine wF.callV 0 (viewL_cons_of (view_int) viewL_nil_of) ?_
        simp (disch := omega) only [Tryz.ntmps126, Tryz.results126, go_sem, he, beq_self_eq_true, Bool.not_true]
        refine wW.callV 0 (viewL_cons_of (view_int) (viewL_cons_of (view_int) (viewL_cons_of (view_int) viewL_nil_of))) ?_
        simp (disch := omega) only [Tryz.ntmps126, Tryz.results126, go_sem]
        exact fin_pI hp rfl rfl
    · have hp : pint s = none := pint_none fun n h1 h2 h3 h4 => he (by
        rw [hv] at h1
        simp only [Lib.NumEnd.ok.injEq] at h1
        rw [h1]; exact h2)
      have he2 := beq_eq_false_iff_ne.2 he
      simp (disch := omega) only [Tryz.ntmps126, Tryz.results126, go_sem]
      refine wA.callV 0 (viewL_cons_of view_str viewL_nil_of) ?_
      simp (disch := omega) only [Tryz.ntmps126, Tryz.results126, go_sem]
      refine wF.callV 0 (viewL_cons_of (view_int) viewL_nil_of) ?_
      simp (disch := omega) only [Tryz.ntmps126, Tryz.results126, go_sem, he2, Bool.not_false]
      exact fin_pI hp rfl rfl
  · obtain ⟨x, wA⟩ := Tryz.atoi_n s (fun v hv => hok ⟨v, hv⟩) hs
    have hp : pint s = none := pint_none fun n h1 _ _ _ => hok ⟨n, h1⟩
    simp (disch := omega) only [Tryz.ntmps126, Tryz.results126, go_sem]
    refine wA.callV 0 (viewL_cons_of view_str viewL_nil_of) ?_
    simp (disch := omega) only [Tryz.ntmps126, Tryz.results126, go_sem]
    exact fin_pI hp rfl rfl
end Go.Sh

/-
  Numbers and phones: contracts.
-/
namespace Go.Sh
set_option linter.unusedSimpArgs false
set_option linter.unusedVariables false
open Go Go.Proofs

def dgs (l : List UInt8) : List UInt8 := l.filter isDg
theorem dgs_length (l : List UInt8) : (dgs l).length ≤ l.length := List.length_filter_le _ _
theorem dgs_snoc {l : List UInt8} {k : Nat} (h : k < l.length) : dgs (l.take (k + 1)) = dgs (l.take k) ++ (if isDg (l.getD k 0) = true then [l.getD k 0] else []) := by
  rw [take_at 0 h, dgs, dgs, List.filter_append, List.filter_cons, List.filter_nil]
theorem dgs_le {l : List UInt8} {k : Nat} : (dgs (l.take k)).length ≤ k := by
  have := dgs_length (l.take k); rw [List.length_take] at this; omega
set_option maxHeartbeats 4000000 in
theorem Tryz.specDgs_ok (s : List UInt8) (hs : s.length ≤ 1048576) : PCall Tryz.prog 120 [str s] (str (dgs s)) := by
  refine FCall.pcall (R := fun r _ => r = str (dgs s)) ?_ 0 (by rintro r H rfl; exact view_str)
  refine FCall.of_body Tryz.func120 rfl (by kernel_rfl) (by simp [Tryz.ntmps120]) ?_
  refine SW_of_vc Tryz.mixed _ _ _ (by kernel_rfl) ?_
  simp (disch := omega) only [Tryz.ntmps120, Tryz.results120, go_sem]
  refine LoopW.loop (fun p : Nat × Nat × Heap => ⟨ofL [(0, str s), (3, .own p.2.1 0 (dgs (s.take p.1)).length (dgs (s.take p.1)).length 1 false), (4, .val (.int .i64 p.1))], p.2.2⟩)
    (fun p => p.1 ≤ s.length ∧ p.2.1 < p.2.2.nb ∧ p.2.2.map p.2.1 = some ⟨u8c (dgs (s.take p.1)), false⟩) (fun p => s.length - p.1) (0, 0, (hp [] 0).push ⟨[], false⟩) ⟨by simp, by show 0 < ((hp [] 0).push _).nb; rw [hpush_nb]; show 0 < 0 + 1; omega, by show ((hp [] 0).push _).map 0 = _; rw [hpush_map]; rfl⟩
    (Wk.of (by simp only [go_sem, ↓List.forall_mem_cons, List.not_mem_nil, false_implies, implies_true, and_true, true_and, and_self, ri_eq, Int.natCast_add, Int.cast_ofNat_Int, List.take_zero, dgs, List.filter_nil, List.length_nil]; try simp) rfl) ?_
  rintro ⟨i, ob, H⟩ ⟨hi, hob, hm⟩
  simp only at hi hob hm
  have hl := dgs_le (l := s) (k := i)
  refine SW_of_vc Tryz.mixed _ _ _ (by kernel_rfl) ?_
  by_cases hlt : i < s.length
  · have hix := sb_ix hlt
    have hst := dgs_snoc hlt
    have hb := u8arg (s.getD i 0)
    generalize s.getD i 0 = c at *
    generalize dgs (s.take i) = P at *
    generalize hP2 : dgs (s.take (i + 1)) = P2 at *
    have hPs : (u8c P).length = P.length := u8c_length _
    have hPt : (u8c P).take P.length = u8c P := List.take_of_length_le (by omega)
    have hsn := u8c_snoc P c
    cases hd : isDg c with
    | true =>
      have hr := rg_tt hd
      rw [if_pos hd] at hst
      have hl2 : P2.length = P.length + 1 := by rw [hst]; simp
      simp (disch := omega) only [Tryz.ntmps120, Tryz.results120, go_sem, hix, hm, hPs, hPt, hsn, hset_map, hset_nb, hpush_map, hpush_nb]
      refine ⟨(i + 1, H.nb + 1, _), ⟨hlt, ?_, ?_⟩, by simp only; omega, Wk.of (by simp only [go_sem, ↓List.forall_mem_cons, List.not_mem_nil, false_implies, implies_true, and_true, true_and, and_self, ri_eq, Int.natCast_add, Int.cast_ofNat_Int, hP2, hl2]; try simp) rfl⟩
      · simp only [hset_nb, hpush_nb]; omega
      · simp only [hP2, hst]
        simp (disch := omega) only [hset_map, hpush_map, hset_nb, hpush_nb, if_pos, if_neg, ↓reduceIte]
    | false =>
      rw [if_neg (by simp [hd]), List.append_nil] at hst
      subst hst
      rcases rg_ff hd with hr | hr
      · simp (disch := omega) only [Tryz.ntmps120, Tryz.results120, go_sem, hix]
        exact ⟨(i + 1, ob, H), ⟨hlt, hob, by simp only [hP2]; exact hm⟩, by simp only; omega, Wk.of (by simp only [go_sem, ↓List.forall_mem_cons, List.not_mem_nil, false_implies, implies_true, and_true, true_and, and_self, ri_eq, Int.natCast_add, Int.cast_ofNat_Int, hP2]; try simp) rfl⟩
      · simp (disch := omega) only [Tryz.ntmps120, Tryz.results120, go_sem, hix]
        exact ⟨(i + 1, ob, H), ⟨hlt, hob, by simp only [hP2]; exact hm⟩, by simp only; omega, Wk.of (by simp only [go_sem, ↓List.forall_mem_cons, List.not_mem_nil, false_implies, implies_true, and_true, true_and, and_self, ri_eq, Int.natCast_add, Int.cast_ofNat_Int, hP2]; try simp) rfl⟩
  · obtain rfl : i = s.length := by omega
    rw [List.take_length] at hm
    have hPs : (u8c (dgs s)).length = (dgs s).length := u8c_length _
    have hPt : (u8c (dgs s)).take (dgs s).length = u8c (dgs s) := List.take_of_length_le (by omega)
    simp (disch := omega) only [Tryz.ntmps120, Tryz.results120, go_sem, List.take_length, hm, hPs, hPt]
    exact Fin.val rfl
set_option maxHeartbeats 4000000 in
theorem Tryz.implDgs_ok (s : List UInt8) (hs : s.length ≤ 1048576) : PCall Tryz.prog 147 [str s] (str (dgs s)) := by
  refine FCall.pcall (R := fun r _ => r = str (dgs s)) ?_ 0 (by rintro r H rfl; exact view_str)
  refine FCall.of_body Tryz.func147 rfl (by kernel_rfl) (by simp [Tryz.ntmps147]) ?_
  refine SW_of_vc Tryz.mixed _ _ _ (by kernel_rfl) ?_
  simp (disch := omega) only [Tryz.ntmps147, Tryz.results147, go_sem]
  refine LoopW.loop (fun p : Nat × Nat × Heap => ⟨ofL [(0, str s), (3, nlG 1 p.2.1 (dgs (s.take p.1)).length), (6, .val (.int .i64 s.length)), (7, .val (.int .i64 p.1))], p.2.2⟩)
    (fun p => p.1 ≤ s.length ∧ ((dgs (s.take p.1)).length ≠ 0 → p.2.1 < p.2.2.nb ∧ p.2.2.map p.2.1 = some ⟨u8c (dgs (s.take p.1)), false⟩)) (fun p => s.length - p.1) (0, 0, hp [] 0) ⟨by simp, fun h => absurd rfl h⟩
    (Wk.of (by simp only [go_sem, ↓List.forall_mem_cons, List.not_mem_nil, false_implies, implies_true, and_true, true_and, and_self, ri_eq, Int.natCast_add, Int.cast_ofNat_Int, List.take_zero, dgs, List.filter_nil, List.length_nil, nlG_0]; try simp) rfl) ?_
  rintro ⟨i, ob, H⟩ ⟨hi, hml⟩
  simp only at hi hml
  have hl := dgs_le (l := s) (k := i)
  refine SW_of_vc Tryz.mixed _ _ _ (by kernel_rfl) ?_
  by_cases hlt : i < s.length
  · have hix := sb_ix hlt
    have hst := dgs_snoc hlt
    have hb := u8arg (s.getD i 0)
    have wd := Tryz.isDigit_ok (s.getD i 0)
    generalize s.getD i 0 = c at *
    generalize dgs (s.take i) = P at *
    generalize hP2 : dgs (s.take (i + 1)) = P2 at *
    have hPs : (u8c P).length = P.length := u8c_length _
    have hPt : (u8c P).take P.length = u8c P := List.take_of_length_le (by omega)
    have hsn := u8c_snoc P c
    cases hd : isDg c with
    | true =>
      rw [hd] at wd
      rw [if_pos hd] at hst
      have hl2 : P2.length = P.length + 1 := by rw [hst]; simp
      have e2 := nlG_f (z := 1) (b := H.nb + 1) (n := P2.length) (by omega)
      by_cases h0 : P.length = 0
      · have e0 := nlG_t (z := 1) (b := ob) h0
        have h2 : P2 = [c] := by rw [hst, List.length_eq_zero_iff.1 h0]; rfl
        have hl3 : P2.length = 1 := by omega
        rw [hl3] at e2
        simp (disch := omega) only [Tryz.ntmps147, Tryz.results147, go_sem, hix, e0, hset_map, hset_nb, hpush_map, hpush_nb]
        refine wd.callV 0 (viewL_cons_of (view_int) viewL_nil_of) ?_
        simp (disch := omega) only [Tryz.ntmps147, Tryz.results147, go_sem, hix, e0, hset_map, hset_nb, hpush_map, hpush_nb]
        refine ⟨(i + 1, H.nb + 1, _), ⟨hlt, fun _ => ⟨?_, ?_⟩⟩, by simp only; omega, Wk.of (by simp only [go_sem, ↓List.forall_mem_cons, List.not_mem_nil, false_implies, implies_true, and_true, true_and, and_self, ri_eq, Int.natCast_add, Int.cast_ofNat_Int, hP2, hl3, e2]; try simp) rfl⟩
        · simp only [hset_nb, hpush_nb]; omega
        · simp only [hP2, h2]
          simp (disch := omega) only [hset_map, hpush_map, hset_nb, hpush_nb, if_pos, if_neg, ↓reduceIte]
          rfl
      · have e0 := nlG_f (z := 1) (b := ob) h0
        obtain ⟨m1, m2⟩ := hml h0
        rw [hl2] at e2
        simp (disch := omega) only [Tryz.ntmps147, Tryz.results147, go_sem, hix, e0, m2, hPs, hPt, hsn, hset_map, hset_nb, hpush_map, hpush_nb]
        refine wd.callV 0 (viewL_cons_of (view_int) viewL_nil_of) ?_
        simp (disch := omega) only [Tryz.ntmps147, Tryz.results147, go_sem, hix, e0, m2, hPs, hPt, hsn, hset_map, hset_nb, hpush_map, hpush_nb]
        refine ⟨(i + 1, H.nb + 1, _), ⟨hlt, fun _ => ⟨?_, ?_⟩⟩, by simp only; omega, Wk.of (by simp only [go_sem, ↓List.forall_mem_cons, List.not_mem_nil, false_implies, implies_true, and_true, true_and, and_self, ri_eq, Int.natCast_add, Int.cast_ofNat_Int, hP2, hl2, e2]; try simp) rfl⟩
        · simp only [hset_nb, hpush_nb]; omega
        · simp only [hP2, hst]
          simp (disch := omega) only [hset_map, hpush_map, hset_nb, hpush_nb, if_pos, if_neg, ↓reduceIte]
    | false =>
      rw [hd] at wd
      rw [if_neg (by simp [hd]), List.append_nil] at hst
      subst hst
      simp (disch := omega) only [Tryz.ntmps147, Tryz.results147, go_sem, hix]
      refine wd.callV 0 (viewL_cons_of (view_int) viewL_nil_of) ?_
      simp (disch := omega) only [Tryz.ntmps147, Tryz.results147, go_sem, hix]
      exact ⟨(i + 1, ob, H), ⟨hlt, by simp only [hP2]; exact hml⟩, by simp only; omega, Wk.of (by simp only [go_sem, ↓List.forall_mem_cons, List.not_mem_nil, false_implies, implies_true, and_true, true_and, and_self, ri_eq, Int.natCast_add, Int.cast_ofNat_Int, hP2]; try simp) rfl⟩
  · obtain rfl : i = s.length := by omega
    rw [List.take_length] at hml
    generalize hoo : dgs s = P at *
    have hPs : (u8c P).length = P.length := u8c_length _
    have hPt : (u8c P).take P.length = u8c P := List.take_of_length_le (by omega)
    by_cases h0 : P.length = 0
    · have e0 := nlG_t (z := 1) (b := ob) h0
      have h1 := List.length_eq_zero_iff.1 h0
      simp (disch := omega) only [Tryz.ntmps147, Tryz.results147, go_sem, List.take_length, hoo, e0]
      exact Fin.val (by rw [h1])
    · have e0 := nlG_f (z := 1) (b := ob) h0
      obtain ⟨m1, m2⟩ := hml h0
      simp (disch := omega) only [Tryz.ntmps147, Tryz.results147, go_sem, List.take_length, hoo, e0, m2, hPs, hPt]
      exact Fin.val rfl
/-! ### Years -/
def yr (s : List UInt8) : Int := match pint s with | some n => if inR n 1000 9999 = true then n else 0 | none => 0
theorem yr_b (s : List UInt8) : yr s = 0 ∨ (1000 ≤ yr s ∧ yr s ≤ 9999) := by
  unfold yr
  split
  · split
    · rename_i h; exact .inr (inR_of h)
    · exact .inl rfl
  · exact .inl rfl
theorem Tryz.specYr_ok (s : List UInt8) (hs : s.length ≤ 1048576) : PCall Tryz.prog 71 [str s] (.val (.int .i64 (yr s))) := by
  refine FCall.pcall (R := fun r _ => r = .val (.int .i64 (yr s))) ?_ 0 (by rintro r H rfl; exact view_int)
  have w := Tryz.specPI_ok s hs
  refine FCall.of_body Tryz.func71 rfl (by kernel_rfl) (by simp [Tryz.ntmps71]) ?_
  refine SW_of_vc Tryz.mixed _ _ _ (by kernel_rfl) ?_
  unfold pIR at w
  unfold yr
  cases hp : pint s with
  | none =>
    rw [hp] at w
    simp (disch := omega) only [Tryz.ntmps71, Tryz.results71, go_sem]
    refine w.callV 0 (viewL_cons_of view_str viewL_nil_of) ?_
    simp (disch := omega) only [Tryz.ntmps71, Tryz.results71, go_sem]
    exact Fin.val rfl
  | some n =>
    rw [hp] at w
    have w2 := Tryz.l1In_ok n 1000 9999
    cases h1 : inR n 1000 9999 with
    | true =>
      rw [h1] at w2
      simp (disch := omega) only [Tryz.ntmps71, Tryz.results71, go_sem]
      refine w.callV 0 (viewL_cons_of view_str viewL_nil_of) ?_
      simp (disch := omega) only [Tryz.ntmps71, Tryz.results71, go_sem]
      refine w2.callV 0 (viewL_cons_of (view_int) (viewL_cons_of (view_int) (viewL_cons_of (view_int) viewL_nil_of))) ?_
      simp (disch := omega) only [Tryz.ntmps71, Tryz.results71, go_sem]
      exact Fin.val (by simp [h1])
    | false =>
      rw [h1] at w2
      simp (disch := omega) only [Tryz.ntmps71, Tryz.results71, go_sem]
      refine w.callV 0 (viewL_cons_of view_str viewL_nil_of) ?_
      simp (disch := omega) only [Tryz.ntmps71, Tryz.results71, go_sem]
      refine w2.callV 0 (viewL_cons_of (view_int) (viewL_cons_of (view_int) (viewL_cons_of (view_int) viewL_nil_of))) ?_
      simp (disch := omega) only [Tryz.ntmps71, Tryz.results71, go_sem]
      exact Fin.val (by simp [h1])
theorem Tryz.implYr_ok (s : List UInt8) (hs : s.length ≤ 1048576) : PCall Tryz.prog 145 [str s] (.val (.int .i64 (yr s))) := by
  refine FCall.pcall (R := fun r _ => r = .val (.int .i64 (yr s))) ?_ 0 (by rintro r H rfl; exact view_int)
  have w := Tryz.implPI_ok s hs
  refine FCall.of_body Tryz.func145 rfl (by kernel_rfl) (by simp [Tryz.ntmps145]) ?_
  refine SW_of_vc Tryz.mixed _ _ _ (by kernel_rfl) ?_
  unfold pIR at w
  unfold yr
  cases hp : pint s with
  | none =>
    rw [hp] at w
    simp (disch := omega) only [Tryz.ntmps145, Tryz.results145, go_sem]
    refine w.callV 0 (viewL_cons_of view_str viewL_nil_of) ?_
    simp (disch := omega) only [Tryz.ntmps145, Tryz.results145, go_sem]
    exact Fin.val rfl
  | some n =>
    rw [hp] at w
    have w2 := Tryz.within_ok n 1000 9999
    cases h1 : inR n 1000 9999 with
    | true =>
      rw [h1] at w2
      simp (disch := omega) only [Tryz.ntmps145, Tryz.results145, go_sem]
      refine w.callV 0 (viewL_cons_of view_str viewL_nil_of) ?_
      simp (disch := omega) only [Tryz.ntmps145, Tryz.results145, go_sem]
      refine w2.callV 0 (viewL_cons_of (view_int) (viewL_cons_of (view_int) (viewL_cons_of (view_int) viewL_nil_of))) ?_
      simp (disch := omega) only [Tryz.ntmps145, Tryz.results145, go_sem]
      exact Fin.val (by simp [h1])
    | false =>
      rw [h1] at w2
      simp (disch := omega) only [Tryz.ntmps145, Tryz.results145, go_sem]
      refine w.callV 0 (viewL_cons_of view_str viewL_nil_of) ?_
      simp (disch := omega) only [Tryz.ntmps145, Tryz.results145, go_sem]
      refine w2.callV 0 (viewL_cons_of (view_int) (viewL_cons_of (view_int) (viewL_cons_of (view_int) viewL_nil_of))) ?_
      simp (disch := omega) only [Tryz.ntmps145, Tryz.results145, go_sem]
      exact Fin.val (by simp [h1])
end Go.Sh

/-
  Phones and years compared: contracts.
-/
namespace Go.Sh
set_option linter.unusedSimpArgs false
set_option linter.unusedVariables false
open Go Go.Proofs

/-- How many bytes two lists have in common, from the front. -/
def cpl : List UInt8 → List UInt8 → Nat
  | a :: x, b :: y => if a = b then cpl x y + 1 else 0
  | _, _ => 0
def csl (x y : List UInt8) : Nat := cpl x.reverse y.reverse
theorem cpl_at : ∀ {r t : List UInt8} {n : Nat}, n ≤ r.length → n ≤ t.length → (∀ k, k < n → r.getD k 0 = t.getD k 0) → (n = r.length ∨ n = t.length ∨ r.getD n 0 ≠ t.getD n 0) → cpl r t = n
  | [], t, n, h1, _, _, _ => by
    have : n = 0 := by simpa using h1
    subst this; cases t <;> rfl
  | a :: r, [], n, _, h2, _, _ => by
    have : n = 0 := by simpa using h2
    subst this; rfl
  | a :: r, b :: t, 0, _, _, _, h => by
    rcases h with h | h | h
    · simp at h
    · simp at h
    · have h : a ≠ b := by simpa using h
      rw [cpl, if_neg h]
  | a :: r, b :: t, n + 1, h1, h2, h3, h4 => by
    have h0 : a = b := by simpa using h3 0 (by omega)
    rw [cpl, if_pos h0, cpl_at (n := n) (by simpa using h1) (by simpa using h2) (fun k hk => by simpa using h3 (k + 1) (by omega)) (by
      rcases h4 with h | h | h
      · exact .inl (by simpa using h)
      · exact .inr (.inl (by simpa using h))
      · exact .inr (.inr (by simpa using h)))]
theorem cpl_pre : ∀ (r t : List UInt8), (cpl r t = t.length) ↔ t.isPrefixOf r = true
  | [], [] => by simp [cpl]
  | [], b :: t => by simp [cpl]
  | a :: r, [] => by simp [cpl]
  | a :: r, b :: t => by
    have ih := cpl_pre r t
    rw [cpl]
    by_cases h : a = b
    · subst h
      simp only [↓reduceIte, List.length_cons, Nat.add_right_cancel_iff, List.isPrefixOf, beq_self_eq_true, Bool.true_and]
      exact ih
    · have : (b == a) = false := beq_eq_false_iff_ne.2 fun e => h e.symm
      rw [if_neg h]; simp only [List.isPrefixOf, this, Bool.false_and, Bool.false_eq_true, iff_false, List.length_cons]; omega
theorem cpl_symm : ∀ (r t : List UInt8), cpl r t = cpl t r
  | [], [] => rfl
  | [], b :: t => rfl
  | a :: r, [] => rfl
  | a :: r, b :: t => by
    rw [cpl, cpl, cpl_symm r t]
    by_cases h : a = b
    · rw [if_pos h, if_pos h.symm]
    · rw [if_neg h, if_neg fun e => h e.symm]
theorem suf_y (x y : List UInt8) : Lib.hasSuffix x y = decide (csl x y = y.length) := by
  rw [Bool.eq_iff_iff, decide_eq_true_iff, csl]
  have := cpl_pre x.reverse y.reverse
  rw [List.length_reverse] at this
  rw [this]; rfl
theorem suf_x (x y : List UInt8) : Lib.hasSuffix y x = decide (csl x y = x.length) := by
  rw [suf_y y x, csl, csl, cpl_symm]
theorem eq_len {x y : List UInt8} : (x == y) = (decide (csl x y = x.length) && decide (csl x y = y.length)) := by
  rw [Bool.eq_iff_iff]
  simp only [beq_iff_eq, Bool.and_eq_true, decide_eq_true_eq]
  constructor
  · rintro rfl
    have : csl x x = x.length := by
      have := (cpl_pre x.reverse x.reverse).2 (by simp)
      simpa [csl] using this
    exact ⟨this, this⟩
  · rintro ⟨h1, h2⟩
    have h3 := suf_y x y
    rw [decide_eq_true h2, Lib.hasSuffix, List.isSuffixOf_iff_suffix] at h3
    exact (h3.eq_of_length (by omega)).symm
theorem csl_at {x y : List UInt8} {n : Nat} (h1 : n ≤ x.length) (h2 : n ≤ y.length) (h3 : ∀ k, k < n → x.getD (x.length - 1 - k) 0 = y.getD (y.length - 1 - k) 0)
    (h4 : n = x.length ∨ n = y.length ∨ x.getD (x.length - 1 - n) 0 ≠ y.getD (y.length - 1 - n) 0) : csl x y = n := by
  have hr : ∀ (l : List UInt8) k, k < l.length → l.reverse.getD k 0 = l.getD (l.length - 1 - k) 0 := fun l k hk => by
    simp [List.getD, List.getElem?_reverse hk]
  refine cpl_at (by simpa using h1) (by simpa using h2) (fun k hk => ?_) ?_
  · rw [hr x k (by omega), hr y k (by omega)]; exact h3 k hk
  · rcases h4 with h | h | h
    · exact .inl (by simpa using h)
    · exact .inr (.inl (by simpa using h))
    · by_cases hx : n = x.length
      · exact .inl (by simpa using hx)
      · by_cases hy : n = y.length
        · exact .inr (.inl (by simpa using hy))
        · exact .inr (.inr (by rw [hr x n (by omega), hr y n (by omega)]; exact h))
/-- The score of two lists of digits. -/
def phd (x y : List UInt8) : Int :=
  if x.length < 4 ∨ y.length < 4 ∨ csl x y < 4 then 0 else if csl x y = x.length ∧ csl x y = y.length then 1000 else if 7 ≤ csl x y ∨ csl x y = x.length ∨ csl x y = y.length then 800 else 400
def phs (a b : List UInt8) : Int := phd (dgs a) (dgs b)
set_option maxHeartbeats 16000000 in
theorem Tryz.specPh_ok (a b : List UInt8) (ha : a.length ≤ 1048576) (hb : b.length ≤ 1048576) : PCall Tryz.prog 70 [str a, str b] (.val (.int .i64 (phs a b))) := by
  refine FCall.pcall (R := fun r _ => r = .val (.int .i64 (phs a b))) ?_ 0 (by rintro r H rfl; exact view_int)
  have w1 := Tryz.specDgs_ok a ha
  have w2 := Tryz.specDgs_ok b hb
  have l1 := dgs_length a
  have l2 := dgs_length b
  refine FCall.of_body Tryz.func70 rfl (by kernel_rfl) (by simp [Tryz.ntmps70]) ?_
  refine SW_of_vc Tryz.mixed _ _ _ (by kernel_rfl) ?_
  unfold phs
  generalize dgs a = x at *
  generalize dgs b = y at *
  simp (disch := omega) only [Tryz.ntmps70, Tryz.results70, go_sem]
  refine w1.callV 0 (viewL_cons_of view_str viewL_nil_of) ?_
  simp (disch := omega) only [Tryz.ntmps70, Tryz.results70, go_sem]
  refine w2.callV 0 (viewL_cons_of view_str viewL_nil_of) ?_
  simp (disch := omega) only [Tryz.ntmps70, Tryz.results70, go_sem]
  refine LoopW.loop (fun n : Nat => ⟨ofL [(5, str x), (6, str y), (7, .val (.int .i64 n))], hp [] 0⟩) (fun n => n ≤ x.length ∧ n ≤ y.length ∧ ∀ k, k < n → x.getD (x.length - 1 - k) 0 = y.getD (y.length - 1 - k) 0) (fun n => x.length - n) 0 ⟨by omega, by omega, fun k h => by omega⟩ (Wk.of (by simp only [go_sem, ↓List.forall_mem_cons, List.not_mem_nil, false_implies, implies_true, and_true, true_and, and_self, ri_eq, Int.natCast_add, Int.cast_ofNat_Int]; try simp) rfl) ?_
  rintro n ⟨h1, h2, h3⟩
  have stop : ∀ _ : (n = x.length ∨ n = y.length ∨ x.getD (x.length - 1 - n) 0 ≠ y.getD (y.length - 1 - n) 0), phd x y = if x.length < 4 ∨ y.length < 4 ∨ n < 4 then 0 else if n = x.length ∧ n = y.length then 1000 else if 7 ≤ n ∨ n = x.length ∨ n = y.length then 800 else 400 := fun h => by
    rw [phd, csl_at h1 h2 h3 h]
  refine SW_of_vc Tryz.mixed _ _ _ (by kernel_rfl) ?_
  by_cases hx : n < x.length
  · have hm1 : ∃ m1 : Nat, m1 = x.length - 1 - n := ⟨_, rfl⟩
    obtain ⟨m1, hm1⟩ := hm1
    have c1 : (x.length : Int) - 1 - (n : Int) = (m1 : Int) := by omega
    have i1 := sb_ix (s := x) (i := m1) (by omega)
    by_cases hy : n < y.length
    · obtain ⟨m2, hm2⟩ : ∃ m2 : Nat, m2 = y.length - 1 - n := ⟨_, rfl⟩
      have c2 : (y.length : Int) - 1 - (n : Int) = (m2 : Int) := by omega
      have i2 := sb_ix (s := y) (i := m2) (by omega)
      by_cases he : x.getD m1 0 = y.getD m2 0
      · have e1 := u8_eq he
        simp (disch := omega) only [Tryz.ntmps70, Tryz.results70, go_sem, c1, i1, c2, i2, e1]
        refine ⟨n + 1, ⟨hx, hy, fun k hk => ?_⟩, by omega, Wk.of (by simp only [go_sem, ↓List.forall_mem_cons, List.not_mem_nil, false_implies, implies_true, and_true, true_and, and_self, ri_eq, Int.natCast_add, Int.cast_ofNat_Int]; try simp) rfl⟩
        rcases Nat.lt_succ_iff_lt_or_eq.1 hk with g | g
        · exact h3 k g
        · rw [g, ← hm1, ← hm2]; exact he
      · have e1 := u8_ne he
        have hend : n = x.length ∨ n = y.length ∨ x.getD (x.length - 1 - n) 0 ≠ y.getD (y.length - 1 - n) 0 := .inr (.inr (by rw [← hm1, ← hm2]; exact he))
        have hstop := stop hend
        by_cases t1 : x.length < 4
        · first | (exfalso; omega) | (simp (disch := omega) only [Tryz.ntmps70, Tryz.results70, go_sem, c1, i1, c2, i2, e1]; exact Fin.val (by rw [hstop]; simp only [SV.val.injEq, Value.int.injEq, true_and]; rw [if_pos (.inl t1)]))
        by_cases t2 : y.length < 4
        · first | (exfalso; omega) | (simp (disch := omega) only [Tryz.ntmps70, Tryz.results70, go_sem, c1, i1, c2, i2, e1]; exact Fin.val (by rw [hstop]; simp only [SV.val.injEq, Value.int.injEq, true_and]; rw [if_pos (.inr (.inl t2))]))
        by_cases t3 : n < 4
        · first | (exfalso; omega) | (simp (disch := omega) only [Tryz.ntmps70, Tryz.results70, go_sem, c1, i1, c2, i2, e1]; exact Fin.val (by rw [hstop]; simp only [SV.val.injEq, Value.int.injEq, true_and]; rw [if_pos (.inr (.inr t3))]))
        have t4 : ¬ (x.length < 4 ∨ y.length < 4 ∨ n < 4) := by omega
        have ex1 : ∀ h : n = x.length, ((n : Int) == (x.length : Int)) = true := fun h => by rw [h]; exact beq_self_eq_true _
        have ex0 : ∀ h : n ≠ x.length, ((n : Int) == (x.length : Int)) = false := fun h => by rw [beq_eq_false_iff_ne]; omega
        have ey1 : ∀ h : n = y.length, ((n : Int) == (y.length : Int)) = true := fun h => by rw [h]; exact beq_self_eq_true _
        have ey0 : ∀ h : n ≠ y.length, ((n : Int) == (y.length : Int)) = false := fun h => by rw [beq_eq_false_iff_ne]; omega
        by_cases u1 : n = x.length
        · by_cases u2 : n = y.length
          · have v1 := ex1 u1
            have v2 := ey1 u2
            first | (exfalso; omega) | (simp (disch := omega) only [Tryz.ntmps70, Tryz.results70, go_sem, c1, i1, c2, i2, e1, v1, v2]; exact Fin.val (by rw [hstop]; simp only [SV.val.injEq, Value.int.injEq, true_and]; rw [if_neg t4, if_pos ⟨u1, u2⟩]))
          · have v1 := ex1 u1
            have v2 := ey0 u2
            have t5 : ¬ (n = x.length ∧ n = y.length) := by omega
            by_cases u3 : 7 ≤ n
            · first | (exfalso; omega) | (simp (disch := omega) only [Tryz.ntmps70, Tryz.results70, go_sem, c1, i1, c2, i2, e1, v1, v2]; exact Fin.val (by rw [hstop]; simp only [SV.val.injEq, Value.int.injEq, true_and]; rw [if_neg t4, if_neg t5, if_pos (.inl u3)]))
            · first | (exfalso; omega) | (simp (disch := omega) only [Tryz.ntmps70, Tryz.results70, go_sem, c1, i1, c2, i2, e1, v1, v2]; exact Fin.val (by rw [hstop]; simp only [SV.val.injEq, Value.int.injEq, true_and]; rw [if_neg t4, if_neg t5, if_pos (by omega)]))
        · by_cases u2 : n = y.length
          · have v1 := ex0 u1
            have v2 := ey1 u2
            have t5 : ¬ (n = x.length ∧ n = y.length) := by omega
            by_cases u3 : 7 ≤ n
            · first | (exfalso; omega) | (simp (disch := omega) only [Tryz.ntmps70, Tryz.results70, go_sem, c1, i1, c2, i2, e1, v1, v2]; exact Fin.val (by rw [hstop]; simp only [SV.val.injEq, Value.int.injEq, true_and]; rw [if_neg t4, if_neg t5, if_pos (.inl u3)]))
            · first | (exfalso; omega) | (simp (disch := omega) only [Tryz.ntmps70, Tryz.results70, go_sem, c1, i1, c2, i2, e1, v1, v2]; exact Fin.val (by rw [hstop]; simp only [SV.val.injEq, Value.int.injEq, true_and]; rw [if_neg t4, if_neg t5, if_pos (by omega)]))
          · have v1 := ex0 u1
            have v2 := ey0 u2
            have t5 : ¬ (n = x.length ∧ n = y.length) := by omega
            by_cases u3 : 7 ≤ n
            · first | (exfalso; omega) | (simp (disch := omega) only [Tryz.ntmps70, Tryz.results70, go_sem, c1, i1, c2, i2, e1, v1, v2]; exact Fin.val (by rw [hstop]; simp only [SV.val.injEq, Value.int.injEq, true_and]; rw [if_neg t4, if_neg t5, if_pos (.inl u3)]))
            · first | (exfalso; omega) | (simp (disch := omega) only [Tryz.ntmps70, Tryz.results70, go_sem, c1, i1, c2, i2, e1, v1, v2]; exact Fin.val (by rw [hstop]; simp only [SV.val.injEq, Value.int.injEq, true_and]; rw [if_neg t4, if_neg t5, if_neg (by omega)]))
    · have hend : n = x.length ∨ n = y.length ∨ x.getD (x.length - 1 - n) 0 ≠ y.getD (y.length - 1 - n) 0 := .inr (.inl (by omega))
      have hstop := stop hend
      by_cases t1 : x.length < 4
      · first | (exfalso; omega) | (simp (disch := omega) only [Tryz.ntmps70, Tryz.results70, go_sem, List.length_nil]; exact Fin.val (by rw [hstop]; simp only [SV.val.injEq, Value.int.injEq, true_and]; rw [if_pos (.inl t1)]))
      by_cases t2 : y.length < 4
      · first | (exfalso; omega) | (simp (disch := omega) only [Tryz.ntmps70, Tryz.results70, go_sem, List.length_nil]; exact Fin.val (by rw [hstop]; simp only [SV.val.injEq, Value.int.injEq, true_and]; rw [if_pos (.inr (.inl t2))]))
      by_cases t3 : n < 4
      · first | (exfalso; omega) | (simp (disch := omega) only [Tryz.ntmps70, Tryz.results70, go_sem, List.length_nil]; exact Fin.val (by rw [hstop]; simp only [SV.val.injEq, Value.int.injEq, true_and]; rw [if_pos (.inr (.inr t3))]))
      have t4 : ¬ (x.length < 4 ∨ y.length < 4 ∨ n < 4) := by omega
      have ex1 : ∀ h : n = x.length, ((n : Int) == (x.length : Int)) = true := fun h => by rw [h]; exact beq_self_eq_true _
      have ex0 : ∀ h : n ≠ x.length, ((n : Int) == (x.length : Int)) = false := fun h => by rw [beq_eq_false_iff_ne]; omega
      have ey1 : ∀ h : n = y.length, ((n : Int) == (y.length : Int)) = true := fun h => by rw [h]; exact beq_self_eq_true _
      have ey0 : ∀ h : n ≠ y.length, ((n : Int) == (y.length : Int)) = false := fun h => by rw [beq_eq_false_iff_ne]; omega
      by_cases u1 : n = x.length
      · by_cases u2 : n = y.length
        · have v1 := ex1 u1
          have v2 := ey1 u2
          first | (exfalso; omega) | (simp (disch := omega) only [Tryz.ntmps70, Tryz.results70, go_sem, v1, v2]; exact Fin.val (by rw [hstop]; simp only [SV.val.injEq, Value.int.injEq, true_and]; rw [if_neg t4, if_pos ⟨u1, u2⟩]))
        · have v1 := ex1 u1
          have v2 := ey0 u2
          have t5 : ¬ (n = x.length ∧ n = y.length) := by omega
          by_cases u3 : 7 ≤ n
          · first | (exfalso; omega) | (simp (disch := omega) only [Tryz.ntmps70, Tryz.results70, go_sem, v1, v2]; exact Fin.val (by rw [hstop]; simp only [SV.val.injEq, Value.int.injEq, true_and]; rw [if_neg t4, if_neg t5, if_pos (.inl u3)]))
          · first | (exfalso; omega) | (simp (disch := omega) only [Tryz.ntmps70, Tryz.results70, go_sem, v1, v2]; exact Fin.val (by rw [hstop]; simp only [SV.val.injEq, Value.int.injEq, true_and]; rw [if_neg t4, if_neg t5, if_pos (by omega)]))
      · by_cases u2 : n = y.length
        · have v1 := ex0 u1
          have v2 := ey1 u2
          have t5 : ¬ (n = x.length ∧ n = y.length) := by omega
          by_cases u3 : 7 ≤ n
          · first | (exfalso; omega) | (simp (disch := omega) only [Tryz.ntmps70, Tryz.results70, go_sem, v1, v2]; exact Fin.val (by rw [hstop]; simp only [SV.val.injEq, Value.int.injEq, true_and]; rw [if_neg t4, if_neg t5, if_pos (.inl u3)]))
          · first | (exfalso; omega) | (simp (disch := omega) only [Tryz.ntmps70, Tryz.results70, go_sem, v1, v2]; exact Fin.val (by rw [hstop]; simp only [SV.val.injEq, Value.int.injEq, true_and]; rw [if_neg t4, if_neg t5, if_pos (by omega)]))
        · have v1 := ex0 u1
          have v2 := ey0 u2
          have t5 : ¬ (n = x.length ∧ n = y.length) := by omega
          by_cases u3 : 7 ≤ n
          · first | (exfalso; omega) | (simp (disch := omega) only [Tryz.ntmps70, Tryz.results70, go_sem, v1, v2]; exact Fin.val (by rw [hstop]; simp only [SV.val.injEq, Value.int.injEq, true_and]; rw [if_neg t4, if_neg t5, if_pos (.inl u3)]))
          · first | (exfalso; omega) | (simp (disch := omega) only [Tryz.ntmps70, Tryz.results70, go_sem, v1, v2]; exact Fin.val (by rw [hstop]; simp only [SV.val.injEq, Value.int.injEq, true_and]; rw [if_neg t4, if_neg t5, if_neg (by omega)]))
  · have hend : n = x.length ∨ n = y.length ∨ x.getD (x.length - 1 - n) 0 ≠ y.getD (y.length - 1 - n) 0 := .inl (by omega)
    have hstop := stop hend
    by_cases t1 : x.length < 4
    · first | (exfalso; omega) | (simp (disch := omega) only [Tryz.ntmps70, Tryz.results70, go_sem, List.length_nil]; exact Fin.val (by rw [hstop]; simp only [SV.val.injEq, Value.int.injEq, true_and]; rw [if_pos (.inl t1)]))
    by_cases t2 : y.length < 4
    · first | (exfalso; omega) | (simp (disch := omega) only [Tryz.ntmps70, Tryz.results70, go_sem, List.length_nil]; exact Fin.val (by rw [hstop]; simp only [SV.val.injEq, Value.int.injEq, true_and]; rw [if_pos (.inr (.inl t2))]))
    by_cases t3 : n < 4
    · first | (exfalso; omega) | (simp (disch := omega) only [Tryz.ntmps70, Tryz.results70, go_sem, List.length_nil]; exact Fin.val (by rw [hstop]; simp only [SV.val.injEq, Value.int.injEq, true_and]; rw [if_pos (.inr (.inr t3))]))
    have t4 : ¬ (x.length < 4 ∨ y.length < 4 ∨ n < 4) := by omega
    have ex1 : ∀ h : n = x.length, ((n : Int) == (x.length : Int)) = true := fun h => by rw [h]; exact beq_self_eq_true _
    have ex0 : ∀ h : n ≠ x.length, ((n : Int) == (x.length : Int)) = false := fun h => by rw [beq_eq_false_iff_ne]; omega
    have ey1 : ∀ h : n = y.length, ((n : Int) == (y.length : Int)) = true := fun h => by rw [h]; exact beq_self_eq_true _
    have ey0 : ∀ h : n ≠ y.length, ((n : Int) == (y.length : Int)) = false := fun h => by rw [beq_eq_false_iff_ne]; omega
    by_cases u1 : n = x.length
    · by_cases u2 : n = y.length
      · have v1 := ex1 u1
        have v2 := ey1 u2
        first | (exfalso; omega) | (simp (disch := omega) only [Tryz.ntmps70, Tryz.results70, go_sem, v1, v2]; exact Fin.val (by rw [hstop]; simp only [SV.val.injEq, Value.int.injEq, true_and]; rw [if_neg t4, if_pos ⟨u1, u2⟩]))
      · have v1 := ex1 u1
        have v2 := ey0 u2
        have t5 : ¬ (n = x.length ∧ n = y.length) := by omega
        by_cases u3 : 7 ≤ n
        · first | (exfalso; omega) | (simp (disch := omega) only [Tryz.ntmps70, Tryz.results70, go_sem, v1, v2]; exact Fin.val (by rw [hstop]; simp only [SV.val.injEq, Value.int.injEq, true_and]; rw [if_neg t4, if_neg t5, if_pos (.inl u3)]))
        · first | (exfalso; omega) | (simp (disch := omega) only [Tryz.ntmps70, Tryz.results70, go_sem, v1, v2]; exact Fin.val (by rw [hstop]; simp only [SV.val.injEq, Value.int.injEq, true_and]; rw [if_neg t4, if_neg t5, if_pos (by omega)]))
    · by_cases u2 : n = y.length
      · have v1 := ex0 u1
        have v2 := ey1 u2
        have t5 : ¬ (n = x.length ∧ n = y.length) := by omega
        by_cases u3 : 7 ≤ n
        · first | (exfalso; omega) | (simp (disch := omega) only [Tryz.ntmps70, Tryz.results70, go_sem, v1, v2]; exact Fin.val (by rw [hstop]; simp only [SV.val.injEq, Value.int.injEq, true_and]; rw [if_neg t4, if_neg t5, if_pos (.inl u3)]))
        · first | (exfalso; omega) | (simp (disch := omega) only [Tryz.ntmps70, Tryz.results70, go_sem, v1, v2]; exact Fin.val (by rw [hstop]; simp only [SV.val.injEq, Value.int.injEq, true_and]; rw [if_neg t4, if_neg t5, if_pos (by omega)]))
      · have v1 := ex0 u1
        have v2 := ey0 u2
        have t5 : ¬ (n = x.length ∧ n = y.length) := by omega
        by_cases u3 : 7 ≤ n
        · first | (exfalso; omega) | (simp (disch := omega) only [Tryz.ntmps70, Tryz.results70, go_sem, v1, v2]; exact Fin.val (by rw [hstop]; simp only [SV.val.injEq, Value.int.injEq, true_and]; rw [if_neg t4, if_neg t5, if_pos (.inl u3)]))
        · first | (exfalso; omega) | (simp (disch := omega) only [Tryz.ntmps70, Tryz.results70, go_sem, v1, v2]; exact Fin.val (by rw [hstop]; simp only [SV.val.injEq, Value.int.injEq, true_and]; rw [if_neg t4, if_neg t5, if_neg (by omega)]))
set_option maxHeartbeats 16000000 in
theorem Tryz.implPh_ok (a b : List UInt8) (ha : a.length ≤ 1048576) (hb : b.length ≤ 1048576) : PCall Tryz.prog 99 [str a, str b] (.val (.int .i64 (phs a b))) := by
  refine FCall.pcall (R := fun r _ => r = .val (.int .i64 (phs a b))) ?_ 0 (by rintro r H rfl; exact view_int)
  have w1 := Tryz.implDgs_ok a ha
  have w2 := Tryz.implDgs_ok b hb
  have l1 := dgs_length a
  have l2 := dgs_length b
  refine FCall.of_body Tryz.func99 rfl (by kernel_rfl) (by simp [Tryz.ntmps99]) ?_
  refine SW_of_vc Tryz.mixed _ _ _ (by kernel_rfl) ?_
  unfold phs
  generalize dgs a = x at *
  generalize dgs b = y at *
  simp (disch := omega) only [Tryz.ntmps99, Tryz.results99, go_sem]
  refine w1.callV 0 (viewL_cons_of view_str viewL_nil_of) ?_
  simp (disch := omega) only [Tryz.ntmps99, Tryz.results99, go_sem]
  refine w2.callV 0 (viewL_cons_of view_str viewL_nil_of) ?_
  simp (disch := omega) only [Tryz.ntmps99, Tryz.results99, go_sem]
  refine LoopW.loop (fun n : Nat => ⟨ofL [(5, str x), (6, str y), (7, .val (.int .i64 n))], hp [] 0⟩) (fun n => n ≤ x.length ∧ n ≤ y.length ∧ ∀ k, k < n → x.getD (x.length - 1 - k) 0 = y.getD (y.length - 1 - k) 0) (fun n => x.length - n) 0 ⟨by omega, by omega, fun k h => by omega⟩ (Wk.of (by simp only [go_sem, ↓List.forall_mem_cons, List.not_mem_nil, false_implies, implies_true, and_true, true_and, and_self, ri_eq, Int.natCast_add, Int.cast_ofNat_Int]; try simp) rfl) ?_
  rintro n ⟨h1, h2, h3⟩
  have stop : ∀ _ : (n = x.length ∨ n = y.length ∨ x.getD (x.length - 1 - n) 0 ≠ y.getD (y.length - 1 - n) 0), phd x y = if x.length < 4 ∨ y.length < 4 ∨ n < 4 then 0 else if n = x.length ∧ n = y.length then 1000 else if 7 ≤ n ∨ n = x.length ∨ n = y.length then 800 else 400 := fun h => by
    rw [phd, csl_at h1 h2 h3 h]
  refine SW_of_vc Tryz.mixed _ _ _ (by kernel_rfl) ?_
  by_cases hx : n < x.length
  · have hm1 : ∃ m1 : Nat, m1 = x.length - 1 - n := ⟨_, rfl⟩
    obtain ⟨m1, hm1⟩ := hm1
    have c1 : (x.length : Int) - 1 - (n : Int) = (m1 : Int) := by omega
    have i1 := sb_ix (s := x) (i := m1) (by omega)
    by_cases hy : n < y.length
    · obtain ⟨m2, hm2⟩ : ∃ m2 : Nat, m2 = y.length - 1 - n := ⟨_, rfl⟩
      have c2 : (y.length : Int) - 1 - (n : Int) = (m2 : Int) := by omega
      have i2 := sb_ix (s := y) (i := m2) (by omega)
      by_cases he : x.getD m1 0 = y.getD m2 0
      · have e1 := u8_eq he
        simp (disch := omega) only [Tryz.ntmps99, Tryz.results99, go_sem, c1, i1, c2, i2, e1]
        refine ⟨n + 1, ⟨hx, hy, fun k hk => ?_⟩, by omega, Wk.of (by simp only [go_sem, ↓List.forall_mem_cons, List.not_mem_nil, false_implies, implies_true, and_true, true_and, and_self, ri_eq, Int.natCast_add, Int.cast_ofNat_Int]; try simp) rfl⟩
        rcases Nat.lt_succ_iff_lt_or_eq.1 hk with g | g
        · exact h3 k g
        · rw [g, ← hm1, ← hm2]; exact he
      · have e1 := u8_ne he
        have hend : n = x.length ∨ n = y.length ∨ x.getD (x.length - 1 - n) 0 ≠ y.getD (y.length - 1 - n) 0 := .inr (.inr (by rw [← hm1, ← hm2]; exact he))
        have hstop := stop hend
        by_cases t1 : x.length < 4
        · first | (exfalso; omega) | (simp (disch := omega) only [Tryz.ntmps99, Tryz.results99, go_sem, c1, i1, c2, i2, e1]; exact Fin.val (by rw [hstop]; simp only [SV.val.injEq, Value.int.injEq, true_and]; rw [if_pos (.inl t1)]))
        by_cases t2 : y.length < 4
        · first | (exfalso; omega) | (simp (disch := omega) only [Tryz.ntmps99, Tryz.results99, go_sem, c1, i1, c2, i2, e1]; exact Fin.val (by rw [hstop]; simp only [SV.val.injEq, Value.int.injEq, true_and]; rw [if_pos (.inr (.inl t2))]))
        by_cases t3 : n < 4
        · first | (exfalso; omega) | (simp (disch := omega) only [Tryz.ntmps99, Tryz.results99, go_sem, c1, i1, c2, i2, e1]; exact Fin.val (by rw [hstop]; simp only [SV.val.injEq, Value.int.injEq, true_and]; rw [if_pos (.inr (.inr t3))]))
        have t4 : ¬ (x.length < 4 ∨ y.length < 4 ∨ n < 4) := by omega
        by_cases u1 : n = x.length
        · by_cases u2 : n = y.length
          · have hq : (x == y) = true := by rw [eq_len, csl_at h1 h2 h3 hend, decide_eq_true u1, decide_eq_true u2]; rfl
            have s1 := Tryz.hasSuffix_ok x y (by omega)
            have s2 := Tryz.hasSuffix_ok y x (by omega)
            rw [suf_y, csl_at h1 h2 h3 hend, decide_eq_true u2] at s1
            rw [suf_x, csl_at h1 h2 h3 hend, decide_eq_true u1] at s2
            first | (exfalso; omega) | (simp (disch := omega) only [Tryz.ntmps99, Tryz.results99, go_sem, c1, i1, c2, i2, e1, hq]; exact Fin.val (by rw [hstop]; simp only [SV.val.injEq, Value.int.injEq, true_and]; rw [if_neg t4, if_pos ⟨u1, u2⟩]))
          · have hq : (x == y) = false := by rw [eq_len, csl_at h1 h2 h3 hend, decide_eq_true u1, decide_eq_false u2]; rfl
            have s1 := Tryz.hasSuffix_ok x y (by omega)
            have s2 := Tryz.hasSuffix_ok y x (by omega)
            rw [suf_y, csl_at h1 h2 h3 hend, decide_eq_false u2] at s1
            rw [suf_x, csl_at h1 h2 h3 hend, decide_eq_true u1] at s2
            have t5 : ¬ (n = x.length ∧ n = y.length) := by omega
            by_cases u3 : 7 ≤ n
            · first | (exfalso; omega) | (simp (disch := omega) only [Tryz.ntmps99, Tryz.results99, go_sem, c1, i1, c2, i2, e1, hq]; exact Fin.val (by rw [hstop]; simp only [SV.val.injEq, Value.int.injEq, true_and]; rw [if_neg t4, if_neg t5, if_pos (.inl u3)]))
            · first | (exfalso; omega) | (simp (disch := omega) only [Tryz.ntmps99, Tryz.results99, go_sem, c1, i1, c2, i2, e1, hq]; refine s1.callV 0 (viewL_cons_of view_str (viewL_cons_of view_str viewL_nil_of)) ?_; simp (disch := omega) only [Tryz.ntmps99, Tryz.results99, go_sem, c1, i1, c2, i2, e1, hq]; refine s2.callV 0 (viewL_cons_of view_str (viewL_cons_of view_str viewL_nil_of)) ?_; simp (disch := omega) only [Tryz.ntmps99, Tryz.results99, go_sem, c1, i1, c2, i2, e1, hq]; exact Fin.val (by rw [hstop]; simp only [SV.val.injEq, Value.int.injEq, true_and]; rw [if_neg t4, if_neg t5, if_pos (by omega)]))
        · by_cases u2 : n = y.length
          · have hq : (x == y) = false := by rw [eq_len, csl_at h1 h2 h3 hend, decide_eq_false u1, decide_eq_true u2]; rfl
            have s1 := Tryz.hasSuffix_ok x y (by omega)
            have s2 := Tryz.hasSuffix_ok y x (by omega)
            rw [suf_y, csl_at h1 h2 h3 hend, decide_eq_true u2] at s1
            rw [suf_x, csl_at h1 h2 h3 hend, decide_eq_false u1] at s2
            have t5 : ¬ (n = x.length ∧ n = y.length) := by omega
            by_cases u3 : 7 ≤ n
            · first | (exfalso; omega) | (simp (disch := omega) only [Tryz.ntmps99, Tryz.results99, go_sem, c1, i1, c2, i2, e1, hq]; exact Fin.val (by rw [hstop]; simp only [SV.val.injEq, Value.int.injEq, true_and]; rw [if_neg t4, if_neg t5, if_pos (.inl u3)]))
            · first | (exfalso; omega) | (simp (disch := omega) only [Tryz.ntmps99, Tryz.results99, go_sem, c1, i1, c2, i2, e1, hq]; refine s1.callV 0 (viewL_cons_of view_str (viewL_cons_of view_str viewL_nil_of)) ?_; simp (disch := omega) only [Tryz.ntmps99, Tryz.results99, go_sem, c1, i1, c2, i2, e1, hq]; exact Fin.val (by rw [hstop]; simp only [SV.val.injEq, Value.int.injEq, true_and]; rw [if_neg t4, if_neg t5, if_pos (by omega)]))
          · have hq : (x == y) = false := by rw [eq_len, csl_at h1 h2 h3 hend, decide_eq_false u1, decide_eq_false u2]; rfl
            have s1 := Tryz.hasSuffix_ok x y (by omega)
            have s2 := Tryz.hasSuffix_ok y x (by omega)
            rw [suf_y, csl_at h1 h2 h3 hend, decide_eq_false u2] at s1
            rw [suf_x, csl_at h1 h2 h3 hend, decide_eq_false u1] at s2
            have t5 : ¬ (n = x.length ∧ n = y.length) := by omega
            by_cases u3 : 7 ≤ n
            · first | (exfalso; omega) | (simp (disch := omega) only [Tryz.ntmps99, Tryz.results99, go_sem, c1, i1, c2, i2, e1, hq]; exact Fin.val (by rw [hstop]; simp only [SV.val.injEq, Value.int.injEq, true_and]; rw [if_neg t4, if_neg t5, if_pos (.inl u3)]))
            · first | (exfalso; omega) | (simp (disch := omega) only [Tryz.ntmps99, Tryz.results99, go_sem, c1, i1, c2, i2, e1, hq]; refine s1.callV 0 (viewL_cons_of view_str (viewL_cons_of view_str viewL_nil_of)) ?_; simp (disch := omega) only [Tryz.ntmps99, Tryz.results99, go_sem, c1, i1, c2, i2, e1, hq]; refine s2.callV 0 (viewL_cons_of view_str (viewL_cons_of view_str viewL_nil_of)) ?_; simp (disch := omega) only [Tryz.ntmps99, Tryz.results99, go_sem, c1, i1, c2, i2, e1, hq]; exact Fin.val (by rw [hstop]; simp only [SV.val.injEq, Value.int.injEq, true_and]; rw [if_neg t4, if_neg t5, if_neg (by omega)]))
    · have hend : n = x.length ∨ n = y.length ∨ x.getD (x.length - 1 - n) 0 ≠ y.getD (y.length - 1 - n) 0 := .inr (.inl (by omega))
      have hstop := stop hend
      by_cases t1 : x.length < 4
      · first | (exfalso; omega) | (simp (disch := omega) only [Tryz.ntmps99, Tryz.results99, go_sem, List.length_nil]; exact Fin.val (by rw [hstop]; simp only [SV.val.injEq, Value.int.injEq, true_and]; rw [if_pos (.inl t1)]))
      by_cases t2 : y.length < 4
      · first | (exfalso; omega) | (simp (disch := omega) only [Tryz.ntmps99, Tryz.results99, go_sem, List.length_nil]; exact Fin.val (by rw [hstop]; simp only [SV.val.injEq, Value.int.injEq, true_and]; rw [if_pos (.inr (.inl t2))]))
      by_cases t3 : n < 4
      · first | (exfalso; omega) | (simp (disch := omega) only [Tryz.ntmps99, Tryz.results99, go_sem, List.length_nil]; exact Fin.val (by rw [hstop]; simp only [SV.val.injEq, Value.int.injEq, true_and]; rw [if_pos (.inr (.inr t3))]))
      have t4 : ¬ (x.length < 4 ∨ y.length < 4 ∨ n < 4) := by omega
      by_cases u1 : n = x.length
      · by_cases u2 : n = y.length
        · have hq : (x == y) = true := by rw [eq_len, csl_at h1 h2 h3 hend, decide_eq_true u1, decide_eq_true u2]; rfl
          have s1 := Tryz.hasSuffix_ok x y (by omega)
          have s2 := Tryz.hasSuffix_ok y x (by omega)
          rw [suf_y, csl_at h1 h2 h3 hend, decide_eq_true u2] at s1
          rw [suf_x, csl_at h1 h2 h3 hend, decide_eq_true u1] at s2
          first | (exfalso; omega) | (simp (disch := omega) only [Tryz.ntmps99, Tryz.results99, go_sem, hq]; exact Fin.val (by rw [hstop]; simp only [SV.val.injEq, Value.int.injEq, true_and]; rw [if_neg t4, if_pos ⟨u1, u2⟩]))
        · have hq : (x == y) = false := by rw [eq_len, csl_at h1 h2 h3 hend, decide_eq_true u1, decide_eq_false u2]; rfl
          have s1 := Tryz.hasSuffix_ok x y (by omega)
          have s2 := Tryz.hasSuffix_ok y x (by omega)
          rw [suf_y, csl_at h1 h2 h3 hend, decide_eq_false u2] at s1
          rw [suf_x, csl_at h1 h2 h3 hend, decide_eq_true u1] at s2
          have t5 : ¬ (n = x.length ∧ n = y.length) := by omega
          by_cases u3 : 7 ≤ n
          · first | (exfalso; omega) | (simp (disch := omega) only [Tryz.ntmps99, Tryz.results99, go_sem, hq]; exact Fin.val (by rw [hstop]; simp only [SV.val.injEq, Value.int.injEq, true_and]; rw [if_neg t4, if_neg t5, if_pos (.inl u3)]))
          · first | (exfalso; omega) | (simp (disch := omega) only [Tryz.ntmps99, Tryz.results99, go_sem, hq]; refine s1.callV 0 (viewL_cons_of view_str (viewL_cons_of view_str viewL_nil_of)) ?_; simp (disch := omega) only [Tryz.ntmps99, Tryz.results99, go_sem, hq]; refine s2.callV 0 (viewL_cons_of view_str (viewL_cons_of view_str viewL_nil_of)) ?_; simp (disch := omega) only [Tryz.ntmps99, Tryz.results99, go_sem, hq]; exact Fin.val (by rw [hstop]; simp only [SV.val.injEq, Value.int.injEq, true_and]; rw [if_neg t4, if_neg t5, if_pos (by omega)]))
      · by_cases u2 : n = y.length
        · have hq : (x == y) = false := by rw [eq_len, csl_at h1 h2 h3 hend, decide_eq_false u1, decide_eq_true u2]; rfl
          have s1 := Tryz.hasSuffix_ok x y (by omega)
          have s2 := Tryz.hasSuffix_ok y x (by omega)
          rw [suf_y, csl_at h1 h2 h3 hend, decide_eq_true u2] at s1
          rw [suf_x, csl_at h1 h2 h3 hend, decide_eq_false u1] at s2
          have t5 : ¬ (n = x.length ∧ n = y.length) := by omega
          by_cases u3 : 7 ≤ n
          · first | (exfalso; omega) | (simp (disch := omega) only [Tryz.ntmps99, Tryz.results99, go_sem, hq]; exact Fin.val (by rw [hstop]; simp only [SV.val.injEq, Value.int.injEq, true_and]; rw [if_neg t4, if_neg t5, if_pos (.inl u3)]))
          · first | (exfalso; omega) | (simp (disch := omega) only [Tryz.ntmps99, Tryz.results99, go_sem, hq]; refine s1.callV 0 (viewL_cons_of view_str (viewL_cons_of view_str viewL_nil_of)) ?_; simp (disch := omega) only [Tryz.ntmps99, Tryz.results99, go_sem, hq]; exact Fin.val (by rw [hstop]; simp only [SV.val.injEq, Value.int.injEq, true_and]; rw [if_neg t4, if_neg t5, if_pos (by omega)]))
        · have hq : (x == y) = false := by rw [eq_len, csl_at h1 h2 h3 hend, decide_eq_false u1, decide_eq_false u2]; rfl
          have s1 := Tryz.hasSuffix_ok x y (by omega)
          have s2 := Tryz.hasSuffix_ok y x (by omega)
          rw [suf_y, csl_at h1 h2 h3 hend, decide_eq_false u2] at s1
          rw [suf_x, csl_at h1 h2 h3 hend, decide_eq_false u1] at s2
          have t5 : ¬ (n = x.length ∧ n = y.length) := by omega
          by_cases u3 : 7 ≤ n
          · first | (exfalso; omega) | (simp (disch := omega) only [Tryz.ntmps99, Tryz.results99, go_sem, hq]; exact Fin.val (by rw [hstop]; simp only [SV.val.injEq, Value.int.injEq, true_and]; rw [if_neg t4, if_neg t5, if_pos (.inl u3)]))
          · first | (exfalso; omega) | (simp (disch := omega) only [Tryz.ntmps99, Tryz.results99, go_sem, hq]; refine s1.callV 0 (viewL_cons_of view_str (viewL_cons_of view_str viewL_nil_of)) ?_; simp (disch := omega) only [Tryz.ntmps99, Tryz.results99, go_sem, hq]; refine s2.callV 0 (viewL_cons_of view_str (viewL_cons_of view_str viewL_nil_of)) ?_; simp (disch := omega) only [Tryz.ntmps99, Tryz.results99, go_sem, hq]; exact Fin.val (by rw [hstop]; simp only [SV.val.injEq, Value.int.injEq, true_and]; rw [if_neg t4, if_neg t5, if_neg (by omega)]))
  · have hend : n = x.length ∨ n = y.length ∨ x.getD (x.length - 1 - n) 0 ≠ y.getD (y.length - 1 - n) 0 := .inl (by omega)
    have hstop := stop hend
    by_cases t1 : x.length < 4
    · first | (exfalso; omega) | (simp (disch := omega) only [Tryz.ntmps99, Tryz.results99, go_sem, List.length_nil]; exact Fin.val (by rw [hstop]; simp only [SV.val.injEq, Value.int.injEq, true_and]; rw [if_pos (.inl t1)]))
    by_cases t2 : y.length < 4
    · first | (exfalso; omega) | (simp (disch := omega) only [Tryz.ntmps99, Tryz.results99, go_sem, List.length_nil]; exact Fin.val (by rw [hstop]; simp only [SV.val.injEq, Value.int.injEq, true_and]; rw [if_pos (.inr (.inl t2))]))
    by_cases t3 : n < 4
    · first | (exfalso; omega) | (simp (disch := omega) only [Tryz.ntmps99, Tryz.results99, go_sem, List.length_nil]; exact Fin.val (by rw [hstop]; simp only [SV.val.injEq, Value.int.injEq, true_and]; rw [if_pos (.inr (.inr t3))]))
    have t4 : ¬ (x.length < 4 ∨ y.length < 4 ∨ n < 4) := by omega
    by_cases u1 : n = x.length
    · by_cases u2 : n = y.length
      · have hq : (x == y) = true := by rw [eq_len, csl_at h1 h2 h3 hend, decide_eq_true u1, decide_eq_true u2]; rfl
        have s1 := Tryz.hasSuffix_ok x y (by omega)
        have s2 := Tryz.hasSuffix_ok y x (by omega)
        rw [suf_y, csl_at h1 h2 h3 hend, decide_eq_true u2] at s1
        rw [suf_x, csl_at h1 h2 h3 hend, decide_eq_true u1] at s2
        first | (exfalso; omega) | (simp (disch := omega) only [Tryz.ntmps99, Tryz.results99, go_sem, hq]; exact Fin.val (by rw [hstop]; simp only [SV.val.injEq, Value.int.injEq, true_and]; rw [if_neg t4, if_pos ⟨u1, u2⟩]))
      · have hq : (x == y) = false := by rw [eq_len, csl_at h1 h2 h3 hend, decide_eq_true u1, decide_eq_false u2]; rfl
        have s1 := Tryz.hasSuffix_ok x y (by omega)
        have s2 := Tryz.hasSuffix_ok y x (by omega)
        rw [suf_y, csl_at h1 h2 h3 hend, decide_eq_false u2] at s1
        rw [suf_x, csl_at h1 h2 h3 hend, decide_eq_true u1] at s2
        have t5 : ¬ (n = x.length ∧ n = y.length) := by omega
        by_cases u3 : 7 ≤ n
        · first | (exfalso; omega) | (simp (disch := omega) only [Tryz.ntmps99, Tryz.results99, go_sem, hq]; exact Fin.val (by rw [hstop]; simp only [SV.val.injEq, Value.int.injEq, true_and]; rw [if_neg t4, if_neg t5, if_pos (.inl u3)]))
        · first | (exfalso; omega) | (simp (disch := omega) only [Tryz.ntmps99, Tryz.results99, go_sem, hq]; refine s1.callV 0 (viewL_cons_of view_str (viewL_cons_of view_str viewL_nil_of)) ?_; simp (disch := omega) only [Tryz.ntmps99, Tryz.results99, go_sem, hq]; refine s2.callV 0 (viewL_cons_of view_str (viewL_cons_of view_str viewL_nil_of)) ?_; simp (disch := omega) only [Tryz.ntmps99, Tryz.results99, go_sem, hq]; exact Fin.val (by rw [hstop]; simp only [SV.val.injEq, Value.int.injEq, true_and]; rw [if_neg t4, if_neg t5, if_pos (by omega)]))
    · by_cases u2 : n = y.length
      · have hq : (x == y) = false := by rw [eq_len, csl_at h1 h2 h3 hend, decide_eq_false u1, decide_eq_true u2]; rfl
        have s1 := Tryz.hasSuffix_ok x y (by omega)
        have s2 := Tryz.hasSuffix_ok y x (by omega)
        rw [suf_y, csl_at h1 h2 h3 hend, decide_eq_true u2] at s1
        rw [suf_x, csl_at h1 h2 h3 hend, decide_eq_false u1] at s2
        have t5 : ¬ (n = x.length ∧ n = y.length) := by omega
        by_cases u3 : 7 ≤ n
        · first | (exfalso; omega) | (simp (disch := omega) only [Tryz.ntmps99, Tryz.results99, go_sem, hq]; exact Fin.val (by rw [hstop]; simp only [SV.val.injEq, Value.int.injEq, true_and]; rw [if_neg t4, if_neg t5, if_pos (.inl u3)]))
        · first | (exfalso; omega) | (simp (disch := omega) only [Tryz.ntmps99, Tryz.results99, go_sem, hq]; refine s1.callV 0 (viewL_cons_of view_str (viewL_cons_of view_str viewL_nil_of)) ?_; simp (disch := omega) only [Tryz.ntmps99, Tryz.results99, go_sem, hq]; exact Fin.val (by rw [hstop]; simp only [SV.val.injEq, Value.int.injEq, true_and]; rw [if_neg t4, if_neg t5, if_pos (by omega)]))
      · have hq : (x == y) = false := by rw [eq_len, csl_at h1 h2 h3 hend, decide_eq_false u1, decide_eq_false u2]; rfl
        have s1 := Tryz.hasSuffix_ok x y (by omega)
        have s2 := Tryz.hasSuffix_ok y x (by omega)
        rw [suf_y, csl_at h1 h2 h3 hend, decide_eq_false u2] at s1
        rw [suf_x, csl_at h1 h2 h3 hend, decide_eq_false u1] at s2
        have t5 : ¬ (n = x.length ∧ n = y.length) := by omega
        by_cases u3 : 7 ≤ n
        · first | (exfalso; omega) | (simp (disch := omega) only [Tryz.ntmps99, Tryz.results99, go_sem, hq]; exact Fin.val (by rw [hstop]; simp only [SV.val.injEq, Value.int.injEq, true_and]; rw [if_neg t4, if_neg t5, if_pos (.inl u3)]))
        · first | (exfalso; omega) | (simp (disch := omega) only [Tryz.ntmps99, Tryz.results99, go_sem, hq]; refine s1.callV 0 (viewL_cons_of view_str (viewL_cons_of view_str viewL_nil_of)) ?_; simp (disch := omega) only [Tryz.ntmps99, Tryz.results99, go_sem, hq]; refine s2.callV 0 (viewL_cons_of view_str (viewL_cons_of view_str viewL_nil_of)) ?_; simp (disch := omega) only [Tryz.ntmps99, Tryz.results99, go_sem, hq]; exact Fin.val (by rw [hstop]; simp only [SV.val.injEq, Value.int.injEq, true_and]; rw [if_neg t4, if_neg t5, if_neg (by omega)]))
end Go.Sh

/-
  Years compared: contracts.
-/
namespace Go.Sh
set_option linter.unusedSimpArgs false
set_option linter.unusedVariables false
open Go Go.Proofs

/-! ### Years compared -/
def nsc (p q : Int) : Int := if 10 ≤ (if p < q then q - p else p - q) then 0 else (1000 * (10 - (if p < q then q - p else p - q))).tdiv 10
theorem Tryz.l7Num_ok (x : Int) : PCall Tryz.prog 122 [.val (.int .i64 x)] (.val (.bool (inR x 0 9999))) := by
  refine FCall.pcall (R := fun r _ => r = .val (.bool (inR x 0 9999))) ?_ 0 (by rintro r H rfl; exact view_bool)
  have w := Tryz.l1In_ok x 0 9999
  refine FCall.of_body Tryz.func122 rfl (by kernel_rfl) (by simp [Tryz.ntmps122]) ?_
  refine SW_of_vc Tryz.mixed _ _ _ (by kernel_rfl) ?_
  simp (disch := omega) only [Tryz.ntmps122, Tryz.results122, go_sem]
  refine w.callV 0 (viewL_cons_of (view_int) (viewL_cons_of (view_int) (viewL_cons_of (view_int) viewL_nil_of))) ?_
  simp (disch := omega) only [Tryz.ntmps122, Tryz.results122, go_sem]
  exact Fin.val rfl
set_option maxHeartbeats 4000000 in
theorem Tryz.specNS_ok (p q : Int) (hp : 0 ≤ p ∧ p ≤ 9999) (hq : 0 ≤ q ∧ q ≤ 9999) : PCall Tryz.prog 72 [.val (.int .i64 p), .val (.int .i64 q), .val (.int .i64 10)] (.val (.int .i64 (nsc p q))) := by
  refine FCall.pcall (R := fun r _ => r = .val (.int .i64 (nsc p q))) ?_ 0 (by rintro r H rfl; exact view_int)
  have w1 := Tryz.l7Num_ok p
  have w2 := Tryz.l7Num_ok q
  have w3 := Tryz.l1In_ok 10 1 9999
  rw [inR_tt hp.1 hp.2] at w1
  rw [inR_tt hq.1 hq.2] at w2
  rw [inR_tt (by omega) (by omega)] at w3
  refine FCall.of_body Tryz.func72 rfl (by kernel_rfl) (by simp [Tryz.ntmps72]) ?_
  refine SW_of_vc Tryz.mixed _ _ _ (by kernel_rfl) ?_
  unfold nsc
  by_cases h1 : p < q
  · have e1 : max p q = q := by omega
    have e2 : min p q = p := by omega
    rw [if_pos h1]
    by_cases h2 : 10 ≤ q - p
    · simp (disch := omega) only [Tryz.ntmps72, Tryz.results72, go_sem, e1, e2]
      refine w1.callV 0 (viewL_cons_of (view_int) viewL_nil_of) ?_
      simp (disch := omega) only [Tryz.ntmps72, Tryz.results72, go_sem, e1, e2]
      refine w2.callV 0 (viewL_cons_of (view_int) viewL_nil_of) ?_
      simp (disch := omega) only [Tryz.ntmps72, Tryz.results72, go_sem, e1, e2]
      refine w3.callV 0 (viewL_cons_of (view_int) (viewL_cons_of (view_int) (viewL_cons_of (view_int) viewL_nil_of))) ?_
      simp (disch := omega) only [Tryz.ntmps72, Tryz.results72, go_sem, e1, e2]
      exact Fin.val rfl
    · simp (disch := omega) only [Tryz.ntmps72, Tryz.results72, go_sem, e1, e2]
      refine w1.callV 0 (viewL_cons_of (view_int) viewL_nil_of) ?_
      simp (disch := omega) only [Tryz.ntmps72, Tryz.results72, go_sem, e1, e2]
      refine w2.callV 0 (viewL_cons_of (view_int) viewL_nil_of) ?_
      simp (disch := omega) only [Tryz.ntmps72, Tryz.results72, go_sem, e1, e2]
      refine w3.callV 0 (viewL_cons_of (view_int) (viewL_cons_of (view_int) (viewL_cons_of (view_int) viewL_nil_of))) ?_
      simp (disch := omega) only [Tryz.ntmps72, Tryz.results72, go_sem, e1, e2]
      exact Fin.val (by
      have b1 : 0 ≤ (1000 * (10 - (q - p))).tdiv 10 := Int.tdiv_nonneg (by omega) (by omega)
      have b2 : (1000 * (10 - (q - p))).tdiv 10 ≤ 1000 * (10 - (q - p)) := Int.tdiv_le_self _ (by omega)
      first | (rw [wrap_id (by omega) (by omega)]; done) | (rw [if_neg (by omega), wrap_id (by omega) (by omega)]) | (rw [if_pos (by omega), wrap_id (by omega) (by omega)]))
  · have e1 : max p q = p := by omega
    have e2 : min p q = q := by omega
    rw [if_neg h1]
    by_cases h2 : 10 ≤ p - q
    · simp (disch := omega) only [Tryz.ntmps72, Tryz.results72, go_sem, e1, e2]
      refine w1.callV 0 (viewL_cons_of (view_int) viewL_nil_of) ?_
      simp (disch := omega) only [Tryz.ntmps72, Tryz.results72, go_sem, e1, e2]
      refine w2.callV 0 (viewL_cons_of (view_int) viewL_nil_of) ?_
      simp (disch := omega) only [Tryz.ntmps72, Tryz.results72, go_sem, e1, e2]
      refine w3.callV 0 (viewL_cons_of (view_int) (viewL_cons_of (view_int) (viewL_cons_of (view_int) viewL_nil_of))) ?_
      simp (disch := omega) only [Tryz.ntmps72, Tryz.results72, go_sem, e1, e2]
      exact Fin.val rfl
    · simp (disch := omega) only [Tryz.ntmps72, Tryz.results72, go_sem, e1, e2]
      refine w1.callV 0 (viewL_cons_of (view_int) viewL_nil_of) ?_
      simp (disch := omega) only [Tryz.ntmps72, Tryz.results72, go_sem, e1, e2]
      refine w2.callV 0 (viewL_cons_of (view_int) viewL_nil_of) ?_
      simp (disch := omega) only [Tryz.ntmps72, Tryz.results72, go_sem, e1, e2]
      refine w3.callV 0 (viewL_cons_of (view_int) (viewL_cons_of (view_int) (viewL_cons_of (view_int) viewL_nil_of))) ?_
      simp (disch := omega) only [Tryz.ntmps72, Tryz.results72, go_sem, e1, e2]
      exact Fin.val (by
      have b1 : 0 ≤ (1000 * (10 - (p - q))).tdiv 10 := Int.tdiv_nonneg (by omega) (by omega)
      have b2 : (1000 * (10 - (p - q))).tdiv 10 ≤ 1000 * (10 - (p - q)) := Int.tdiv_le_self _ (by omega)
      have e3 : (if q < p then q else p) = q := by split <;> omega
      first | (rw [e3, wrap_id (by omega) (by omega)]; done) | (rw [wrap_id (by omega) (by omega)]; done) | (rw [if_neg (by omega), wrap_id (by omega) (by omega)]) | (rw [if_pos (by omega), wrap_id (by omega) (by omega)]))
set_option maxHeartbeats 4000000 in
theorem Tryz.implNS_ok (p q : Int) (hp : 0 ≤ p ∧ p ≤ 9999) (hq : 0 ≤ q ∧ q ≤ 9999) : PCall Tryz.prog 146 [.val (.int .i64 p), .val (.int .i64 q), .val (.int .i64 10)] (.val (.int .i64 (nsc p q))) := by
  refine FCall.pcall (R := fun r _ => r = .val (.int .i64 (nsc p q))) ?_ 0 (by rintro r H rfl; exact view_int)
  have w1 := Tryz.within_ok p 0 9999
  have w2 := Tryz.within_ok q 0 9999
  have w3 := Tryz.within_ok 10 1 9999
  rw [inR_tt hp.1 hp.2] at w1
  rw [inR_tt hq.1 hq.2] at w2
  rw [inR_tt (by omega) (by omega)] at w3
  refine FCall.of_body Tryz.func146 rfl (by kernel_rfl) (by simp [Tryz.ntmps146]) ?_
  refine SW_of_vc Tryz.mixed _ _ _ (by kernel_rfl) ?_
  have key : ∀ d : Int, 0 ≤ d → (1000 * max (10 - d) 0).tdiv 10 = if 10 ≤ d then 0 else (1000 * (10 - d)).tdiv 10 := fun d hd => by
    by_cases h : 10 ≤ d
    · rw [if_pos h, show max (10 - d) 0 = 0 by omega]; rfl
    · rw [if_neg h, show max (10 - d) 0 = 10 - d by omega]
  unfold nsc
  by_cases h1 : p < q
  · have e1 : max (p - q) (q - p) = q - p := by omega
    have hk := key (q - p) (by omega)
    rw [if_pos h1, ← hk]
    have b1 : 0 ≤ max (10 - (q - p)) 0 ∧ max (10 - (q - p)) 0 ≤ 10 := by omega
    generalize hd : q - p = d at *
    generalize hmx : max (10 - d) 0 = mx at *
    have b2 : 0 ≤ (1000 * mx).tdiv 10 := Int.tdiv_nonneg (by omega) (by omega)
    have b3 : (1000 * mx).tdiv 10 ≤ 1000 * mx := Int.tdiv_le_self _ (by omega)
    simp (disch := omega) only [Tryz.ntmps146, Tryz.results146, go_sem, hd, e1, hmx]
    refine w1.callV 0 (viewL_cons_of (view_int) (viewL_cons_of (view_int) (viewL_cons_of (view_int) viewL_nil_of))) ?_
    simp (disch := omega) only [Tryz.ntmps146, Tryz.results146, go_sem, hd, e1, hmx]
    refine w2.callV 0 (viewL_cons_of (view_int) (viewL_cons_of (view_int) (viewL_cons_of (view_int) viewL_nil_of))) ?_
    simp (disch := omega) only [Tryz.ntmps146, Tryz.results146, go_sem, hd, e1, hmx]
    refine w3.callV 0 (viewL_cons_of (view_int) (viewL_cons_of (view_int) (viewL_cons_of (view_int) viewL_nil_of))) ?_
    simp (disch := omega) only [Tryz.ntmps146, Tryz.results146, go_sem, hd, e1, hmx]
    exact Fin.val (by rw [show (if 10 - d < 0 then 0 else 10 - d) = mx by split <;> omega, wrap_id (by omega) (by omega)])
  · have e1 : max (p - q) (q - p) = p - q := by omega
    have hk := key (p - q) (by omega)
    rw [if_neg h1, ← hk]
    have b1 : 0 ≤ max (10 - (p - q)) 0 ∧ max (10 - (p - q)) 0 ≤ 10 := by omega
    generalize hd : p - q = d at *
    generalize hmx : max (10 - d) 0 = mx at *
    have b2 : 0 ≤ (1000 * mx).tdiv 10 := Int.tdiv_nonneg (by omega) (by omega)
    have b3 : (1000 * mx).tdiv 10 ≤ 1000 * mx := Int.tdiv_le_self _ (by omega)
    simp (disch := omega) only [Tryz.ntmps146, Tryz.results146, go_sem, hd, e1, hmx]
    refine w1.callV 0 (viewL_cons_of (view_int) (viewL_cons_of (view_int) (viewL_cons_of (view_int) viewL_nil_of))) ?_
    simp (disch := omega) only [Tryz.ntmps146, Tryz.results146, go_sem, hd, e1, hmx]
    refine w2.callV 0 (viewL_cons_of (view_int) (viewL_cons_of (view_int) (viewL_cons_of (view_int) viewL_nil_of))) ?_
    simp (disch := omega) only [Tryz.ntmps146, Tryz.results146, go_sem, hd, e1, hmx]
    refine w3.callV 0 (viewL_cons_of (view_int) (viewL_cons_of (view_int) (viewL_cons_of (view_int) viewL_nil_of))) ?_
    simp (disch := omega) only [Tryz.ntmps146, Tryz.results146, go_sem, hd, e1, hmx]
    exact Fin.val (by rw [show (if 10 - d < 0 then 0 else 10 - d) = mx by split <;> omega, wrap_id (by omega) (by omega)])
end Go.Sh

/-
  Plain law: the features of two records.
-/
namespace Go.Sh
set_option linter.unusedSimpArgs false
set_option linter.unusedVariables false
open Go Go.Proofs

theorem ed_symm (a b : List UInt8) : ∀ n i j, i + j ≤ n → ed a b i j = ed b a j i
  | _, 0, j, _ => by rw [ed_0, ed_r0]
  | _, i + 1, 0, _ => by rw [ed_0, ed_r0]
  | n + 1, i + 1, j + 1, h => by
    have e1 := ed_symm a b n i j (by omega)
    have e2 := ed_symm a b n i (j + 1) (by omega)
    have e3 := ed_symm a b n (i + 1) j (by omega)
    by_cases hc : a.getD i 0 = b.getD j 0
    · rw [ed_eq hc, ed_eq hc.symm, e1]
    · rw [ed_ne hc, ed_ne (Ne.symm hc), e1, e2, e3]; omega
theorem dist_symm (a b : List UInt8) : dist a b = dist b a := by
  rw [dist, dist, ed_symm a b _ _ _ (Nat.le_refl _)]
  by_cases h : a.length ≤ 40 ∧ b.length ≤ 40
  · rw [if_pos h, if_pos ⟨h.2, h.1⟩]
  · rw [if_neg h, if_neg (fun g => h ⟨g.2, g.1⟩)]
theorem escore_symm (a b : List UInt8) : escore a b = escore b a := by rw [escore, escore, dist_symm a b, Nat.max_comm a.length b.length]
theorem tsc_symm (a b : List UInt8) : tsc a b = tsc b a := by rw [tsc, tsc, escore_symm]; exact ite_congr (propext or_comm) (fun _ => rfl) (fun _ => rfl)
theorem csl_symm (x y : List UInt8) : csl x y = csl y x := cpl_symm _ _
theorem phs_symm (a b : List UInt8) : phs a b = phs b a := by
  rw [phs, phs, phd, phd, csl_symm (dgs b) (dgs a)]
  generalize csl (dgs a) (dgs b) = c
  generalize (dgs a).length = x
  generalize (dgs b).length = y
  exact ite_congr (propext (by omega)) (fun _ => rfl) fun _ => ite_congr (propext (by omega)) (fun _ => rfl) fun _ => ite_congr (propext (by omega)) (fun _ => rfl) (fun _ => rfl)
theorem nsc_symm (p q : Int) : nsc p q = nsc q p := by
  have e : (if p < q then q - p else p - q) = (if q < p then p - q else q - p) := by split <;> split <;> omega
  rw [nsc, nsc, e]
def ysc (a b : List UInt8) : Int := if yr a = 0 ∨ yr b = 0 then 0 else nsc (yr a) (yr b)
theorem ysc_symm (a b : List UInt8) : ysc a b = ysc b a := by rw [ysc, ysc, nsc_symm]; exact ite_congr (propext or_comm) (fun _ => rfl) (fun _ => rfl)
def pf (F G : List Wd) : List Int := [tsc (F.getD 0 []) (G.getD 0 []), sts (tks (F.getD 0 [])) (tks (G.getD 0 [])), sts (sks (F.getD 0 [])) (sks (G.getD 0 [])), tsc (F.getD 1 []) (G.getD 1 []), ysc (F.getD 2 []) (G.getD 2 []), phs (F.getD 3 []) (G.getD 3 [])]
theorem pf_symm (F G : List Wd) : pf F G = pf G F := by
  rw [pf, pf, tsc_symm (F.getD 0 []), tsc_symm (F.getD 1 []), ysc_symm (F.getD 2 []), phs_symm (F.getD 3 []), sts_symm (tks_ts _).1 (tks_ts _).1, sts_symm (sks_ts _).1 (sks_ts _).1]
theorem td_b {x m : Int} (h0 : 0 ≤ x) (h1 : x ≤ m) (hm : 0 < m) : 0 ≤ (1000 * x).tdiv m ∧ (1000 * x).tdiv m ≤ 1000 := by
  rw [Int.tdiv_eq_ediv_of_nonneg (by omega)]
  exact ⟨Int.ediv_nonneg (by omega) (by omega), Int.ediv_le_of_le_mul hm (by omega)⟩
theorem ed_max (a b : List UInt8) : ∀ i j, ed a b i j ≤ max i j
  | 0, j => by rw [ed_0]; omega
  | i + 1, 0 => by rw [ed_r0]; omega
  | i + 1, j + 1 => by
    have h1 := ed_max a b i j
    by_cases hc : a.getD i 0 = b.getD j 0
    · rw [ed_eq hc]; omega
    · rw [ed_ne hc]; omega
theorem dist_le {a b : List UInt8} : dist a b ≤ ((max a.length b.length : Nat) : Int) := by
  rw [dist]
  split
  · have := ed_max a b a.length b.length
    omega
  · omega
end Go.Sh

/-
  Drawing a matrix.
-/
namespace Go.Sh
set_option linter.unusedSimpArgs false
set_option linter.unusedVariables false
open Go Go.Proofs

/-- A list of rows in memory of its own, from the name lo on. -/
structure MatH (H : Heap) (lo ob : Nat) (cs : List SV) (nm : Nat → Nat) (M : List (List Int)) : Prop where
  ln : cs.length = M.length
  o : H.map ob = some ⟨cs, false⟩
  row : ∀ i, i < M.length → ∃ e e2, cs[i]? = some (.own (nm i) 0 (mrow M i).length (mrow M i).length 1 e) ∧ H.map (nm i) = some ⟨ints (mrow M i), e2⟩
  inj : ∀ i j, i < M.length → j < M.length → nm i = nm j → i = j
  lo1 : lo ≤ ob ∧ ob < H.nb
  lo2 : ∀ i, i < M.length → lo ≤ nm i ∧ nm i < H.nb ∧ nm i ≠ ob
theorem MatH.fr {H H' : Heap} {lo ob : Nat} {cs : List SV} {nm : Nat → Nat} {M : List (List Int)} (h : MatH H lo ob cs nm M) (hn : H.nb ≤ H'.nb) (hf : ∀ b, lo ≤ b → b < H.nb → H'.map b = H.map b) : MatH H' lo ob cs nm M := by
  refine ⟨h.ln, by rw [hf _ h.lo1.1 h.lo1.2, h.o], fun i hi => ?_, h.inj, ⟨h.lo1.1, by have := h.lo1.2; omega⟩, fun i hi => ?_⟩
  · obtain ⟨e, e2, h1, h2⟩ := h.row i hi
    obtain ⟨k1, k2, k3⟩ := h.lo2 i hi
    exact ⟨e, e2, h1, by rw [hf _ k1 k2, h2]⟩
  · obtain ⟨k1, k2, k3⟩ := h.lo2 i hi
    exact ⟨k1, by omega, k3⟩
theorem mrow_lt {M N : List (List Int)} {i : Nat} (h : i < M.length) : mrow (M ++ N) i = mrow M i := by simp [mrow, h, List.getElem?_append_left h]
theorem mrow_at {M : List (List Int)} {L : List Int} : mrow (M ++ [L]) M.length = L := by simp [mrow]
theorem MatH.snoc {H H' : Heap} {lo ob ob' r l : Nat} {cs : List SV} {nm : Nat → Nat} {M : List (List Int)} {L : List Int} {e e2 : Bool} (h : MatH H lo ob cs nm M) (hl : l = L.length) (ho : H'.map ob' = some ⟨cs ++ [.own r 0 l l 1 e], false⟩) (hr : H'.map r = some ⟨ints L, e2⟩)
    (hf : ∀ b, lo ≤ b → b < H.nb → b ≠ ob → H'.map b = H.map b) (hn : H.nb ≤ H'.nb) (h1 : H.nb ≤ ob' ∧ ob' < H'.nb) (h2 : H.nb ≤ r ∧ r < H'.nb) (hne : r ≠ ob') : MatH H' lo ob' (cs ++ [.own r 0 l l 1 e]) (fun i => if i < M.length then nm i else r) (M ++ [L]) := by
  subst hl
  have hlo := h.lo1
  refine ⟨by simp [h.ln], ho, fun i hi => ?_, fun i j hi hj hij => ?_, ⟨by omega, h1.2⟩, fun i hi => ?_⟩
  · by_cases hlt : i < M.length
    · obtain ⟨e, e2, g1, g2⟩ := h.row i hlt
      obtain ⟨k1, k2, k3⟩ := h.lo2 i hlt
      refine ⟨e, e2, ?_, ?_⟩
      · rw [List.getElem?_append_left (by rw [h.ln]; exact hlt), g1, mrow_lt hlt, if_pos hlt]
      · rw [if_pos hlt, mrow_lt hlt, hf _ k1 k2 k3, g2]
    · have : i = M.length := by simp at hi; omega
      subst this
      exact ⟨e, e2, by rw [mrow_at, if_neg (by omega), ← h.ln]; simp, by rw [if_neg (by omega), mrow_at, hr]⟩
  · simp only [List.length_append, List.length_singleton] at hi hj
    by_cases a : i < M.length <;> by_cases b : j < M.length
    · simp only [a, b, if_true] at hij; exact h.inj i j a b hij
    · simp only [a, b, if_true, if_false] at hij
      have := h.lo2 i a; omega
    · simp only [a, b, if_true, if_false] at hij
      have := h.lo2 j b; omega
    · omega
  · simp only [List.length_append, List.length_singleton] at hi
    show lo ≤ (if i < M.length then nm i else r) ∧ (if i < M.length then nm i else r) < H'.nb ∧ (if i < M.length then nm i else r) ≠ ob'
    split
    · rename_i a
      have := h.lo2 i a
      exact ⟨this.1, by omega, by omega⟩
    · exact ⟨by omega, h2.2, hne⟩
theorem mset_row_ne {M : List (List Int)} {i k j : Nat} {x : Int} (h : j ≠ i) : mrow (mset M i k x) j = mrow M j := by
  simp [mrow, mset, List.getElem?_set, Ne.symm h]
theorem mset_row_eq {M : List (List Int)} {i k : Nat} {x : Int} (h : i < M.length) : mrow (mset M i k x) i = (mrow M i).set k x := by
  simp [mrow, mset, List.getElem?_set, h]
theorem MatH.set {H : Heap} {lo ob i k : Nat} {cs : List SV} {nm : Nat → Nat} {M : List (List Int)} {x : Int} {e2 : Bool} (h : MatH H lo ob cs nm M) (hi : i < M.length) : MatH (H.set (nm i) (some ⟨ints ((mrow M i).set k x), e2⟩)) lo ob cs nm (mset M i k x) := by
  have hl : (mset M i k x).length = M.length := mset_length ..
  have hi2 := h.lo2 i hi
  refine ⟨by rw [hl, h.ln], by rw [hset_map, if_neg (by omega), h.o], fun j hj => ?_, fun a b ha hb => h.inj a b (by omega) (by omega), h.lo1, fun j hj => h.lo2 j (by omega)⟩
  rw [hl] at hj
  obtain ⟨e, e3, h1, h2⟩ := h.row j hj
  by_cases hji : j = i
  · subst hji
    rw [mset_row_eq hi, List.length_set]
    exact ⟨e, e2, h1, by rw [hset_map, if_pos rfl]⟩
  · rw [mset_row_ne hji]
    exact ⟨e, e3, h1, by rw [hset_map, if_neg (fun g => hji (h.inj _ _ hj hi g)), h2]⟩
/-- The part of a heap from a name on. -/
def Heap.frm (H : Heap) (n : Nat) : Heap := ⟨fun b => if n ≤ b then H.map b else none, H.nb⟩
theorem frm_map (H : Heap) (n b : Nat) : (H.frm n).map b = if n ≤ b then H.map b else none := rfl
theorem MatH.view {H : Heap} {lo ob : Nat} {cs : List SV} {nm : Nat → Nat} {M : List (List Int)} {f cap : Nat} {e : Bool} (h : MatH H lo ob cs nm M) : view (H.frm lo) (f + 2) (.own ob 0 M.length cap 1 e) = some (rr M) := by
  have ho : (H.frm lo).map ob = some ⟨cs, false⟩ := by rw [frm_map, if_pos h.lo1.1, h.o]
  have hL : viewL (H.frm lo) (f + 1) cs = some (rows M) := by
    have hr : ∀ i, i < M.length → ∃ s, cs[i]? = some s ∧ Sh.view (H.frm lo) (f + 1) s = some (ri (mrow M i)) := fun i hi => by
      obtain ⟨e, e2, h1, h2⟩ := h.row i hi
      have k := h.lo2 i hi
      exact ⟨_, h1, view_own (L := mrow M i) (e2 := e2) (by rw [frm_map, if_pos k.1, h2]) rfl⟩
    have hln := h.ln
    clear h ho
    induction cs generalizing M with
    | nil =>
      have : M = [] := List.length_eq_zero_iff.1 hln.symm
      subst this
      exact viewL_nil_of
    | cons s cs ih =>
      cases M with
      | nil => simp at hln
      | cons L M =>
        refine viewL_cons_of ?_ (ih (M := M) (fun i hi => ?_) (by simpa using hln))
        · obtain ⟨s', h1, h2⟩ := hr 0 (by simp)
          simp at h1; subst h1
          exact h2
        · obtain ⟨s', h1, h2⟩ := hr (i + 1) (by simpa using hi)
          exact ⟨s', by simpa using h1, h2⟩
  simp only [Sh.view, ho, Nat.mul_one, List.drop_zero]
  have hle : M.length ≤ cs.length := by rw [h.ln]; omega
  rw [if_pos (by omega), ← h.ln, List.take_length, hL]
  simp only [rr, h.ln]
/-- What a drawing leaves behind. -/
structure DS (B : List Int) (cb : Nat) (H H' : Heap) : Prop where
  cur : Cur B H' cb
  nb : H.nb ≤ H'.nb
  fr : ∀ b, b < H.nb → b ≠ cb → H'.map b = H.map b
theorem DS.refl {B : List Int} {cb : Nat} {H : Heap} (h : Cur B H cb) : DS B cb H H := ⟨h, Nat.le_refl _, fun _ _ _ => rfl⟩
theorem DS.trans {B : List Int} {cb : Nat} {H H1 H2 : Heap} (h : DS B cb H H1) (g : DS B cb H1 H2) : DS B cb H H2 :=
  ⟨g.cur, Nat.le_trans h.nb g.nb, fun b hb hc => by rw [g.fr b (Nat.lt_of_lt_of_le hb h.nb) hc, h.fr b hb hc]⟩
theorem CurS.ds {B : List Int} {cb : Nat} {H H' : Heap} (h : CurS B H cb H') : DS B cb H H' := ⟨h.cur, by rw [h.nb]; exact Nat.le_refl _, fun b _ hc => h.map hc⟩
theorem DS.push {B : List Int} {cb : Nat} {H : Heap} (h : Cur B H cb) (hc : cb < H.nb) (k : Blk) : DS B cb H (H.push k) := by
  obtain ⟨i, x, hi, e⟩ := h
  exact ⟨⟨i, x, hi, by rw [hpush_map, if_neg (by omega), e]⟩, by rw [hpush_nb]; omega, fun b hb _ => by rw [hpush_map, if_neg (by omega)]⟩
theorem repI2 : rep [SV.val (.int .i64 0)] 2 = [SV.val (.int .i64 0), SV.val (.int .i64 0)] := rfl
theorem repI3 : rep [SV.val (.int .i64 0)] 3 = [SV.val (.int .i64 0), SV.val (.int .i64 0), SV.val (.int .i64 0)] := rfl
theorem repI6 : rep [SV.val (.int .i64 0)] 6 = [SV.val (.int .i64 0), SV.val (.int .i64 0), SV.val (.int .i64 0), SV.val (.int .i64 0), SV.val (.int .i64 0), SV.val (.int .i64 0)] := rfl
theorem repI10 : rep [SV.val (.int .i64 0)] 10 = [SV.val (.int .i64 0), SV.val (.int .i64 0), SV.val (.int .i64 0), SV.val (.int .i64 0), SV.val (.int .i64 0), SV.val (.int .i64 0), SV.val (.int .i64 0), SV.val (.int .i64 0), SV.val (.int .i64 0), SV.val (.int .i64 0)] := rfl
attribute [go_sem high] repI2 repI3 repI6 repI10
end Go.Sh

/-
  Matrices in a heap of any kind: seen as contents; cut out.
-/
namespace Go.Sh
set_option linter.unusedSimpArgs false
set_option linter.unusedVariables false
open Go Go.RowKit Go.Proofs

theorem MatH.viewH {H : Heap} {lo ob : Nat} {cs : List SV} {nm : Nat → Nat} {M : List (List Int)} {f cap : Nat} {e : Bool} (h : MatH H lo ob cs nm M) : Sh.view H (f + 2) (.own ob 0 M.length cap 1 e) = some (rr M) := by
  have hL : viewL H (f + 1) cs = some (rows M) := by
    have hr : ∀ i, i < M.length → ∃ s, cs[i]? = some s ∧ Sh.view H (f + 1) s = some (ri (mrow M i)) := fun i hi => by
      obtain ⟨e, e2, h1, h2⟩ := h.row i hi
      exact ⟨_, h1, view_own (L := mrow M i) (e2 := e2) h2 rfl⟩
    have hln := h.ln
    clear h
    induction cs generalizing M with
    | nil =>
      have : M = [] := List.length_eq_zero_iff.1 hln.symm
      subst this
      exact viewL_nil_of
    | cons s cs ih =>
      cases M with
      | nil => simp at hln
      | cons L M =>
        refine viewL_cons_of ?_ (ih (M := M) (fun i hi => ?_) (by simpa using hln))
        · obtain ⟨s', h1, h2⟩ := hr 0 (by simp)
          simp at h1; subst h1
          exact h2
        · obtain ⟨s', h1, h2⟩ := hr (i + 1) (by simpa using hi)
          exact ⟨s', by simpa using h1, h2⟩
  simp only [Sh.view, h.o, Nat.mul_one, List.drop_zero]
  have hle : M.length ≤ cs.length := by rw [h.ln]; omega
  rw [if_pos (by omega), ← h.ln, List.take_length, hL]
  simp only [rr, h.ln]
theorem noRowL_of {cs : List SV} (h : ∀ s ∈ cs, noRow s = true) : noRowL cs = true := by
  induction cs with
  | nil => rfl
  | cons s cs ih => simp only [noRowL, h s (by simp), ih fun s hs => h s (by simp [hs]), Bool.and_self]
theorem MatH.part {H : Heap} {lo ob : Nat} {cs : List SV} {nm : Nat → Nat} {M : List (List Int)} (h : MatH H lo ob cs nm M) (p : Nat → Prop) [DecidablePred p] (h1 : p ob) (h2 : ∀ i, i < M.length → p (nm i)) : MatH (Sh.part H p) lo ob cs nm M :=
  ⟨h.ln, by rw [part_map h1, h.o], fun i hi => by
    obtain ⟨e, e2, k1, k2⟩ := h.row i hi
    exact ⟨e, e2, k1, by rw [part_map (h2 i hi), k2]⟩, h.inj, h.lo1, h.lo2⟩
theorem MatH.nr {H : Heap} {lo ob : Nat} {cs : List SV} {nm : Nat → Nat} {M : List (List Int)} (h : MatH H lo ob cs nm M) : noRowL cs = true :=
  noRowL_of fun s hs => by
    obtain ⟨i, hi, rfl⟩ := List.getElem_of_mem hs
    obtain ⟨e, e2, h1, h2⟩ := h.row i (by rw [← h.ln]; exact hi)
    rw [List.getElem?_eq_getElem hi] at h1
    simp at h1
    rw [h1]; rfl
def Rect (M : List (List Int)) (n : Nat) : Prop := ∀ i, i < M.length → (mrow M i).length = n
theorem Rect.set {M : List (List Int)} {n i k : Nat} {x : Int} (h : Rect M n) : Rect (mset M i k x) n := fun j hj => by
  rw [mset_length] at hj
  rw [mset_row_length]; exact h j hj
theorem Rect.snoc {M : List (List Int)} {n : Nat} {L : List Int} (h : Rect M n) (hL : L.length = n) : Rect (M ++ [L]) n := fun j hj => by
  by_cases hlt : j < M.length
  · rw [mrow_lt hlt]; exact h j hlt
  · have : j = M.length := by simp at hj; omega
    subst this; rw [mrow_at]; exact hL
end Go.Sh

/-
  Tables in memory of its own; the edit distance: contracts.
-/
namespace Go.Sh
set_option linter.unusedSimpArgs false
set_option linter.unusedVariables false
open Go Go.Proofs

/-- A table whose first rows are there. -/
structure TabH (H : Heap) (ob : Nat) (ex : Bool) (cs : List SV) (nm : Nat → Nat) (M : List (List Int)) : Prop where
  ln : M.length ≤ cs.length
  o : H.map ob = some ⟨cs, ex⟩
  row : ∀ i, i < M.length → cs[i]? = some (.own (nm i) 0 (mrow M i).length (mrow M i).length 1 true) ∧ H.map (nm i) = some ⟨ints (mrow M i), true⟩
  inj : ∀ i j, i < M.length → j < M.length → nm i = nm j → i = j
  lo1 : ob < H.nb
  lo2 : ∀ i, i < M.length → nm i < H.nb ∧ nm i ≠ ob
theorem TabH.frN {H H' : Heap} {ob : Nat} {ex : Bool} {cs : List SV} {nm : Nat → Nat} {M : List (List Int)} (h : TabH H ob ex cs nm M) (hn : H.nb ≤ H'.nb) (ho : H'.map ob = H.map ob) (hf : ∀ i, i < M.length → H'.map (nm i) = H.map (nm i)) : TabH H' ob ex cs nm M :=
  ⟨h.ln, by rw [ho, h.o], fun i hi => ⟨(h.row i hi).1, by rw [hf i hi, (h.row i hi).2]⟩, h.inj, by have := h.lo1; omega, fun i hi => ⟨by have := (h.lo2 i hi).1; omega, (h.lo2 i hi).2⟩⟩
/-- A row that lies ready comes to the table, which may have moved. -/
theorem TabH.snoc {H H' : Heap} {ob ob' r : Nat} {ex ex' : Bool} {cs cs' : List SV} {nm : Nat → Nat} {M : List (List Int)} {L : List Int} (h : TabH H ob ex cs nm M) (ho : H'.map ob' = some ⟨cs', ex'⟩) (hr : H'.map r = some ⟨ints L, true⟩)
    (hcs : ∀ i, i < M.length → cs'[i]? = cs[i]?) (hc : cs'[M.length]? = some (.own r 0 L.length L.length 1 true))
    (hf : ∀ i, i < M.length → H'.map (nm i) = H.map (nm i)) (hn : H.nb ≤ H'.nb) (h1 : ob' < H'.nb ∧ ∀ i, i < M.length → nm i ≠ ob') (h2 : r < H'.nb ∧ r ≠ ob' ∧ ∀ i, i < M.length → nm i ≠ r) : TabH H' ob' ex' cs' (fun i => if i < M.length then nm i else r) (M ++ [L]) := by
  have hle : M.length < cs'.length := (List.getElem?_eq_some_iff.1 hc).1
  refine ⟨by simp; omega, ho, fun i hi => ?_, fun i j hi hj hij => ?_, h1.1, fun i hi => ?_⟩
  · by_cases hlt : i < M.length
    · obtain ⟨g1, g2⟩ := h.row i hlt
      exact ⟨by rw [hcs i hlt, g1, mrow_lt hlt, if_pos hlt], by rw [if_pos hlt, mrow_lt hlt, hf i hlt, g2]⟩
    · have : i = M.length := by simp at hi; omega
      subst this
      exact ⟨by rw [hc, mrow_at, if_neg (by omega)], by rw [if_neg (by omega), mrow_at, hr]⟩
  · simp only [List.length_append, List.length_singleton] at hi hj
    by_cases a : i < M.length <;> by_cases b : j < M.length
    · simp only [a, b, if_true] at hij; exact h.inj i j a b hij
    · simp only [a, b, if_true, if_false] at hij
      exact absurd hij (h2.2.2 i a)
    · simp only [a, b, if_true, if_false] at hij
      exact absurd hij.symm (h2.2.2 j b)
    · omega
  · simp only [List.length_append, List.length_singleton] at hi
    show (if i < M.length then nm i else r) < H'.nb ∧ (if i < M.length then nm i else r) ≠ ob'
    split
    · rename_i a
      exact ⟨by have := (h.lo2 i a).1; omega, h1.2 i a⟩
    · exact ⟨h2.1, h2.2.1⟩
theorem TabH.set {H : Heap} {ob i k : Nat} {ex : Bool} {cs : List SV} {nm : Nat → Nat} {M : List (List Int)} {x : Int} (h : TabH H ob ex cs nm M) (hi : i < M.length) : TabH (H.set (nm i) (some ⟨ints ((mrow M i).set k x), true⟩)) ob ex cs nm (mset M i k x) := by
  have hl : (mset M i k x).length = M.length := mset_length ..
  have hi2 := h.lo2 i hi
  refine ⟨by rw [hl]; exact h.ln, by rw [hset_map, if_neg (fun e => hi2.2 e.symm), h.o], fun j hj => ?_, fun a b ha hb => h.inj a b (by omega) (by omega), h.lo1, fun j hj => h.lo2 j (by omega)⟩
  rw [hl] at hj
  obtain ⟨h1, h2⟩ := h.row j hj
  by_cases hji : j = i
  · subst hji
    rw [mset_row_eq hi, List.length_set]
    exact ⟨h1, by rw [hset_map, if_pos rfl]⟩
  · rw [mset_row_ne hji]
    exact ⟨h1, by rw [hset_map, if_neg (fun g => hji (h.inj _ _ hj hi g)), h2]⟩
theorem TabH.view {H : Heap} {ob : Nat} {ex : Bool} {cs : List SV} {nm : Nat → Nat} {M : List (List Int)} {f cap : Nat} {e : Bool} (h : TabH H ob ex cs nm M) (hl : cs.length = M.length) : Sh.view H (f + 2) (.own ob 0 M.length cap 1 e) = some (rr M) := by
  have hL : viewL H (f + 1) cs = some (rows M) := by
    have hr : ∀ i, i < M.length → ∃ s, cs[i]? = some s ∧ Sh.view H (f + 1) s = some (ri (mrow M i)) := fun i hi => by
      obtain ⟨h1, h2⟩ := h.row i hi
      exact ⟨_, h1, view_own (L := mrow M i) (e2 := true) h2 rfl⟩
    clear h
    induction cs generalizing M with
    | nil =>
      have : M = [] := List.length_eq_zero_iff.1 hl.symm
      subst this
      exact viewL_nil_of
    | cons s cs ih =>
      cases M with
      | nil => simp at hl
      | cons L M =>
        refine viewL_cons_of ?_ (ih (M := M) (by simpa using hl) (fun i hi => ?_))
        · obtain ⟨s', h1, h2⟩ := hr 0 (by simp)
          simp at h1; subst h1
          exact h2
        · obtain ⟨s', h1, h2⟩ := hr (i + 1) (by simpa using hi)
          exact ⟨s', by simpa using h1, h2⟩
  simp only [Sh.view, h.o, Nat.mul_one, List.drop_zero]
  rw [if_pos (by omega), ← hl, List.take_length, hL]
  simp only [rr, hl]
open Classical in
theorem fin_tab {H : Heap} {ob cap : Nat} {ex e : Bool} {cs : List SV} {nm : Nat → Nat} {M : List (List Int)} (h : TabH H ob ex cs nm M) (hl : cs.length = M.length) : Fin (fun r H => Sh.view H 3 r = some (rr M)) (.own ob 0 M.length cap 1 e) H := by
  let p : Nat → Prop := fun b => b = ob ∨ (∃ i, i < M.length ∧ b = nm i)
  have h2 : TabH (part H p) ob ex cs nm M := h.frN (Nat.le_refl _) (part_map (.inl rfl)) (fun i hi => part_map (.inr ⟨i, hi, rfl⟩))
  refine ⟨part H p, part_sub H p, rfl, fun b blk hb => ?_, h2.view (f := 1) hl⟩
  have hb' : (if p b then H.map b else none) = some blk := hb
  split at hb'
  · rename_i hp
    rcases hp with rfl | ⟨i, hi, rfl⟩
    · rw [h.o] at hb'; simp at hb'; subst hb'
      refine noRowL_of fun s hs => ?_
      obtain ⟨i, hi, rfl⟩ := List.getElem_of_mem hs
      have hi' : i < cs.length := hi
      obtain ⟨h1, _⟩ := h.row i (by omega)
      rw [List.getElem?_eq_getElem hi] at h1
      simp at h1
      rw [h1]; rfl
    · rw [(h.row i hi).2] at hb'; simp at hb'; subst hb'; exact noRowL_ints _
  · simp at hb'
/-! ### The rows of the edit distance -/
def edR (a b : List UInt8) (i k : Nat) : List Int := (List.range (b.length + 1)).map fun j => if j < k then (ed a b i j : Int) else 0
theorem edR_length (a b : List UInt8) (i k : Nat) : (edR a b i k).length = b.length + 1 := by simp [edR]
theorem edR_at {a b : List UInt8} {i k j : Nat} (h : j < k) (hj : j ≤ b.length) : (edR a b i k).getD j 0 = (ed a b i j : Int) := by
  simp [edR, List.getD, (by omega : j < b.length + 1), h]
theorem edR_0 (a b : List UInt8) (i : Nat) : edR a b i 0 = List.replicate (b.length + 1) 0 := by
  apply List.ext_getElem?
  intro j
  simp only [edR, List.getElem?_map, List.getElem?_replicate]
  by_cases h : j < b.length + 1
  · rw [List.getElem?_range h, if_pos h]; simp
  · rw [List.getElem?_eq_none (by simp; omega), if_neg h]; rfl
theorem edR_set {a b : List UInt8} {i k : Nat} (hk : k ≤ b.length) : (edR a b i k).set k (ed a b i k : Int) = edR a b i (k + 1) := by
  apply List.ext_getElem?
  intro j
  rw [List.getElem?_set]
  by_cases hjk : k = j
  · subst hjk
    rw [if_pos rfl, if_pos (by rw [edR_length]; omega)]
    simp [edR, (by omega : k < b.length + 1)]
  · rw [if_neg hjk]
    simp only [edR, List.getElem?_map]
    by_cases hr : j < b.length + 1
    · rw [List.getElem?_range hr]
      simp only [Option.map_some, Option.some.injEq]
      by_cases h1 : j < k
      · rw [if_pos h1, if_pos (by omega)]
      · rw [if_neg h1, if_neg (by omega)]
    · rw [List.getElem?_eq_none (by simp; omega)]; rfl
def eRow (a b : List UInt8) (i : Nat) : List Int := edR a b i (b.length + 1)
def eM (a b : List UInt8) (i : Nat) : List (List Int) := (List.range i).map (eRow a b)
theorem eM_length (a b : List UInt8) (i : Nat) : (eM a b i).length = i := by simp [eM]
theorem eM_row {a b : List UInt8} {i r : Nat} (h : r < i) : mrow (eM a b i) r = eRow a b r := by simp [eM, mrow, h]
theorem eM_succ (a b : List UInt8) (i : Nat) : eM a b (i + 1) = eM a b i ++ [eRow a b i] := by simp [eM, List.range_succ]
theorem eRow_at {a b : List UInt8} {i j : Nat} (hj : j ≤ b.length) : (eRow a b i).getD j 0 = (ed a b i j : Int) := edR_at (by omega) hj
end Go.Sh
