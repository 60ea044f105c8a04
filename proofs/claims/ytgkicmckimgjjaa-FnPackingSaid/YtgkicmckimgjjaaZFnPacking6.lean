/-
  Texts put together: DA8, ShP, EFnPacking, LiftB. What each proves stands at its own head, with its conditions.
-/
import Derived.Test.YtgkicmckimgjjaaZFnPacking5

/-
  The laws' own helpers: is the code long; are two lists the same.
-/
namespace Go.Sh
set_option linter.unusedSimpArgs false
set_option linter.unusedVariables false
open Go Go.RowKit Go.Proofs

theorem Try.big_ok (B : List Int) (hB : B.length ≤ 9223372036854775807) : PCall Try.prog 8 [rby B] (.val (.bool (decide (1048576 < B.length)))) := by
  refine FCall.pcall (R := fun r _ => r = .val (.bool (decide (1048576 < B.length)))) ?_ 0 (by rintro r H rfl; exact view_bool)
  refine FCall.of_body Try.func8 rfl (by kernel_rfl) (by simp [Try.ntmps8]) ?_
  refine SW_of_vc Try.mixed _ _ _ (by kernel_rfl) ?_
  by_cases h : 1048576 < B.length
  · rw [decide_eq_true h]
    simp (disch := omega) only [Try.ntmps8, Try.results8, go_sem, rby]
    exact Fin.val rfl
  · rw [decide_eq_false h]
    simp (disch := omega) only [Try.ntmps8, Try.results8, go_sem, rby]
    exact Fin.val rfl
theorem Try.sameInts_ok (A : List Int) (hA : A.length ≤ 1048576) : PCall Try.prog 46 [ri A, ri A] (.val (.bool true)) := by
  refine FCall.pcall (R := fun r _ => r = .val (.bool true)) ?_ 0 (by rintro r H rfl; exact view_bool)
  refine FCall.of_body Try.func46 rfl (by kernel_rfl) (by simp [Try.ntmps46]) ?_
  refine SW_of_vc Try.mixed _ _ _ (by kernel_rfl) ?_
  simp (disch := omega) only [Try.ntmps46, Try.results46, go_sem]
  refine LoopW.loop (fun k : Nat => ⟨ofL [(0, ri A), (1, ri A), (5, .val (.int .i64 k))], hp [] 0⟩) (fun k => k ≤ A.length) (fun k => A.length - k) 0 (by omega) (Wk.of (by simp only [go_sem, ↓List.forall_mem_cons, List.not_mem_nil, false_implies, implies_true, and_true, true_and, and_self, ri_eq, Int.natCast_add, Int.cast_ofNat_Int]; try simp) rfl) ?_
  intro k hk
  refine SW_of_vc Try.mixed _ _ _ (by kernel_rfl) ?_
  by_cases hlt : k < A.length
  · have gx : (ints A)[k]? = some (.val (.int .i64 (A.getD k 0))) := ints_get hlt
    have hil := ints_length A
    simp (disch := omega) only [Try.ntmps46, Try.results46, go_sem, gx, hil, bne_self_eq_false]
    exact ⟨k + 1, by omega, by omega, Wk.of (by simp only [go_sem, ↓List.forall_mem_cons, List.not_mem_nil, false_implies, implies_true, and_true, true_and, and_self, ri_eq, Int.natCast_add, Int.cast_ofNat_Int]; try simp) rfl⟩
  · simp (disch := omega) only [Try.ntmps46, Try.results46, go_sem]
    exact Fin.val rfl
end Go.Sh

/-
  Regions that draw their order, further: operations that allocate, in more orders than one.
-/
namespace Go.Sh
set_option linter.unusedSimpArgs false
set_option linter.unusedVariables false
open Go Go.RowKit
variable {P : Program}

theorem legS_uniq {ops : Array Oper} {S : Heap → Prop} {d : Bool} {o : Oper} {σ : Slots} {H : Heap} {Q Q' : SV → Heap → Prop} (hu : userCall o.op = none) (hS : S H) (h : legS P ops S d o σ H Q) (h' : legS P ops S d o σ H Q') : ∀ r H1, Q r H1 ↔ Q' r H1 := by
  cases d with
  | true =>
    simp only [legS, if_true] at h h'
    rcases h.2 with ⟨g, a, h1, h2⟩ | ⟨g, h2⟩
    · rcases h'.2 with ⟨g', b, k1, k2⟩ | ⟨g', _⟩
      · have := (h1 H hS).symm.trans (k1 H hS)
        have e : a = b := by simpa using this
        intro r H1; rw [h2, k2, e]
      · rw [g] at g'; simp at g'
    · rcases h'.2 with ⟨g', _⟩ | ⟨g', k2⟩
      · rw [g] at g'; simp at g'
      · intro r H1; rw [h2, k2]
  | false =>
    simp only [legS, Bool.false_eq_true, if_false, leg, hu] at h h'
    rcases h.2 with ⟨g, a, Ha, h1, h2⟩ | ⟨g, h2⟩
    · rcases h'.2 with ⟨g', b, Hb, k1, k2⟩ | ⟨g', _⟩
      · have := h1.symm.trans k1
        simp only [Option.some.injEq, Prod.mk.injEq] at this
        intro r H1; rw [h2, k2, this.1, this.2]
      · rw [g] at g'; simp at g'
    · rcases h'.2 with ⟨g', _⟩ | ⟨g', k2⟩
      · rw [g] at g'; simp at g'
      · intro r H1; rw [h2, k2]
theorem stepS_fam {n : Nat} {ops : Array Oper} {S : Heap → Prop} {d : Bool} {o : Oper} {s : St} {ι : Type} {F : ι → Prop} {A : ι → St → Prop} (hu : userCall o.op = none) (hS : S s.H) {l0 : ι} (h0 : F l0) (h : ∀ l, F l → stepS P n ops S d o s (A l)) :
    stepS P n ops S d o s (fun s' => ∀ l, F l → A l s') := by
  obtain ⟨hd, Q, hl, hk⟩ := h l0 h0
  refine ⟨hd, Q, hl, fun r H' hq => ⟨(hk r H' hq).1, fun l hf => ?_⟩⟩
  obtain ⟨_, Q', hl', hk'⟩ := h l hf
  exact (hk' r H' ((legS_uniq hu hS hl hl' r H').1 hq)).2

def pOk (D : List Nat) (ops : Array Oper) (k i : Nat) : Bool := match ops[k]?, ops[i]? with
  | some x, some y => waitsT ops 6 y k || pairOkS D ops k i x y
  | _, _ => false
structure Fam (D : List Nat) (ops : Array Oper) (hv : Nat → Bool) (Ls : List (List Nat)) : Prop where
  edge : ∀ (i : Nat) (y : Oper), ops[i]? = some y → ∀ e ∈ y.after, Region.binds .any e = true → e.on < i
  user : ∀ (i : Nat) (y : Oper), ops[i]? = some y → userCall y.op = none
  nd : ∀ l ∈ Ls, l.Nodup
  bd : ∀ l ∈ Ls, ∀ i ∈ l, i < ops.size
  all : ∀ l ∈ Ls, ∀ i, i < ops.size → i ∈ l
  pw : ∀ l ∈ Ls, l.Pairwise (fun k i => (hv k = true ∧ hv i = true) ∨ pOk D ops k i = true)
  ext : ∀ l ∈ Ls, ∀ m i, i < ops.size → hv i = true → i ∉ (l.filter hv).take m → (∃ k, k < ops.size ∧ hv k = true ∧ k ∉ (l.filter hv).take m ∧ ∃ y : Oper, ops[i]? = some y ∧ waitsT ops 6 y k = true) ∨ ∃ l' ∈ Ls, ((l.filter hv).take m ++ [i]) <+: l'.filter hv

def unl (listed : Array Bool) (i : Nat) : Bool := !listed.getD i true
theorem unl_set {listed : Array Bool} {i : Nat} (hi : i < listed.size) (a : Nat) : unl (listed.setIfInBounds i true) a = (unl listed a && decide (a ≠ i)) := by
  unfold unl
  by_cases h : a = i
  · subst h; simp [Array.getD_eq_getD_getElem?, hi]
  · rw [Array.getD_eq_getD_getElem?, Array.getElem?_setIfInBounds_ne (Ne.symm h), ← Array.getD_eq_getD_getElem?]; simp [h]
theorem filter_set {listed : Array Bool} {i : Nat} (hi : i < listed.size) {l l1 l2 : List Nat} (hnd : l.Nodup) (h : l.filter (unl listed) = l1 ++ i :: l2) : l.filter (unl (listed.setIfInBounds i true)) = l1 ++ l2 ∧ i ∉ l1 ∧ i ∉ l2 := by
  have hn : (l1 ++ i :: l2).Nodup := by rw [← h]; exact hnd.filter _
  rw [List.nodup_append] at hn
  obtain ⟨_, n2, n3⟩ := hn
  have i1 : i ∉ l1 := fun hm => n3 i hm i (by simp) rfl
  have i2 : i ∉ l2 := (List.nodup_cons.1 n2).1
  refine ⟨?_, i1, i2⟩
  have e : (fun a => unl (listed.setIfInBounds i true) a) = fun a => (unl listed a && decide (a ≠ i)) := funext fun a => unl_set hi a
  have : l.filter (unl (listed.setIfInBounds i true)) = (l.filter (unl listed)).filter (fun a => decide (a ≠ i)) := by
    rw [List.filter_filter]
    congr 1
    funext a; rw [unl_set hi, Bool.and_comm]
  rw [this, h, List.filter_append, List.filter_cons]
  simp only [ne_eq, not_true_eq_false, decide_false, Bool.false_eq_true, if_false]
  rw [List.filter_eq_self.2 (fun a ha => by simp; rintro rfl; exact i1 ha), List.filter_eq_self.2 (fun a ha => by simp; rintro rfl; exact i2 ha)]
theorem left_nil_filter {n : Nat} {listed : Array Bool} (hs : listed.size = n) (h : left n listed = []) (l : List Nat) : l.filter (unl listed) = [] := by
  rw [List.filter_eq_nil_iff]
  intro a _
  by_cases ha : a < n
  · have : a ∉ left n listed := by rw [h]; simp
    intro hu
    exact this (List.mem_filter.2 ⟨by simpa using ha, hu⟩)
  · simp [unl, Array.getD_eq_getD_getElem?, Array.getElem?_eq_none (by omega : listed.size ≤ a)]

theorem wpAny_of_fam {n : Nat} {ops : Array Oper} {S : Heap → Prop} {D : List Nat} {Q : Exit → Act → World → Prop} {K : St → Prop} {hv : Nat → Bool} {Ls : List (List Nat)} (hok : Fam D ops hv Ls) : ∀ (fuel : Nat) (listed : Array Bool) (p : List Nat) (s : St) (j : JMap) (a : Act) (w : World), listed.size = ops.size → ClosedL ops listed →
    (left ops.size listed).length ≤ fuel → S s.H → (∃ l ∈ Ls, p <+: l.filter hv) → (∀ i, i < ops.size → hv i = true → (listed.getD i true = true ↔ i ∈ p)) →
    (∀ l, l ∈ Ls ∧ p <+: l.filter hv → opsS P n ops S D (l.filter (unl listed)) s K) → SAll n j s a w → (∀ j' s' a' w', SAll n j' s' a' w' → Nx j s.H w j' s'.H w' → K s' → Q .normal a' w') → wpAny P .any ops Q fuel listed a w := by
  have ready_nil : ∀ listed : Array Bool, listed.size = ops.size → Region.ready .any ops listed = [] → left ops.size listed = [] := by
    intro listed hs hr
    cases hl : left ops.size listed with
    | nil => rfl
    | cons i rest =>
      exfalso
      have hmem : i ∈ left ops.size listed := by rw [hl]; simp
      have hi := List.mem_filter.1 hmem
      have hlt : i < ops.size := by simpa using hi.1
      have hsmall : ∀ k, k < i → listed.getD k true = true := by
        intro k hk
        cases hk' : listed.getD k true with
        | true => rfl
        | false =>
          exfalso
          have hkm : k ∈ left ops.size listed := List.mem_filter.2 ⟨by simp; omega, by simp [hk']⟩
          have hsorted : (left ops.size listed).Pairwise (· < ·) := (List.pairwise_lt_range).filter _
          rw [hl] at hsorted hkm
          rcases List.mem_cons.1 hkm with rfl | h
          · omega
          · have := (List.pairwise_cons.1 hsorted).1 k h
            omega
      have : i ∈ Region.ready .any ops listed := by
        refine List.mem_filter.2 ⟨by simpa using hlt, ?_⟩
        rw [Array.getElem?_eq_getElem hlt]
        simp only [Option.map_some, Option.getD_some, Bool.and_eq_true]
        refine ⟨hi.2, Array.all_eq_true.2 (fun m hm => ?_)⟩
        cases hb : Region.binds .any (ops[i]).after[m] with
        | false => simp
        | true =>
          have h1 := hok.edge i ops[i] (Array.getElem?_eq_getElem hlt) _ (Array.getElem_mem hm) hb
          have h2 := hsmall _ h1
          have h3 : listed.getD ((ops[i]).after[m]).on false = true := by
            rw [Array.getD_eq_getD_getElem?, Array.getElem?_eq_getElem (by omega)] at h2 ⊢
            simpa using h2
          simp [h3]
      rw [hr] at this
      simp at this
  intro fuel
  induction fuel with
  | zero =>
    intro listed p s j a w hs hcl hf hS hne hp hrun ha hq
    have hl : left ops.size listed = [] := by simpa using hf
    obtain ⟨l, hlm, hlp⟩ := hne
    have hrun := hrun l ⟨hlm, hlp⟩
    rw [left_nil_filter hs hl] at hrun
    simp only [opsS] at hrun
    refine ⟨?_, hq j s a w ha (Nx.refl _ _ _) hrun⟩
    cases hr : Region.ready .any ops listed with
    | nil => rfl
    | cons i rest =>
      exfalso
      have hm : i ∈ Region.ready .any ops listed := by rw [hr]; simp
      have hm := List.mem_filter.1 hm
      simp only [Bool.and_eq_true] at hm
      have : i ∈ left ops.size listed := List.mem_filter.2 ⟨hm.1, hm.2.1⟩
      rw [hl] at this; simp at this
  | succ fuel ih =>
    intro listed p s j a w hs hcl hf hS hne hp hrun ha hq
    refine ⟨fun hr => ?_, fun i hi => ?_⟩
    · obtain ⟨l, hlm, hlp⟩ := hne
      have hrun := hrun l ⟨hlm, hlp⟩
      rw [left_nil_filter hs (ready_nil listed hs hr)] at hrun
      simp only [opsS] at hrun
      exact hq j s a w ha (Nx.refl _ _ _) hrun
    · have hm := List.mem_filter.1 hi
      simp only [Bool.and_eq_true] at hm
      have hlt : i < ops.size := by simpa using hm.1
      have hno : listed.getD i true = false := by simpa using hm.2.1
      have hy : ops[i]? = some ops[i] := Array.getElem?_eq_getElem hlt
      have hu := hok.user i _ hy
      have hdir : ∀ e ∈ (ops[i]).after, Region.binds .any e = true → listed.getD e.on false = true := by
        intro e he hb
        have hall := hm.2.2
        rw [hy] at hall
        simp only [Option.map_some, Option.getD_some] at hall
        obtain ⟨m, hm', rfl⟩ := Array.mem_iff_getElem.1 he
        have := Array.all_eq_true.1 hall m hm'
        rw [hb] at this
        simpa only [Bool.not_true, Bool.false_or] using this
      have hset : ∀ m, listed.getD m false = true → (listed.setIfInBounds i true).getD m false = true := by
        intro m h
        by_cases hmi : m = i
        · subst hmi
          simp [Array.getD_eq_getD_getElem?, hs, hlt]
        · rw [Array.getD_eq_getD_getElem?] at h ⊢
          rw [Array.getElem?_setIfInBounds_ne (Ne.symm hmi)]
          exact h
      have hcl' : ClosedL ops (listed.setIfInBounds i true) := by
        intro m y hmy hlm e he hb
        by_cases hmi : m = i
        · subst hmi
          rw [hy] at hmy
          simp at hmy
          subst hmy
          exact hset _ (hdir e he hb)
        · refine hset _ (hcl m y hmy ?_ e he hb)
          rw [Array.getD_eq_getD_getElem?] at hlm ⊢
          rwa [Array.getElem?_setIfInBounds_ne (Ne.symm hmi)] at hlm
      have hwait : ∀ k, k < ops.size → unl listed k = true → waitsT ops 6 ops[i] k = true → False := fun k hk hul hw => by
        have := waitsT_listed hcl 6 _ hdir hw
        simp only [unl, Bool.not_eq_true'] at hul
        rw [Array.getD_eq_getD_getElem?, Array.getElem?_eq_getElem (by omega)] at this hul
        simp at this hul
        rw [this] at hul; simp at hul
      have hsz : i < listed.size := by omega
      -- the lists that go on
      obtain ⟨p', hp', hne', hmov⟩ : ∃ p', (∀ k, k < ops.size → hv k = true → ((listed.setIfInBounds i true).getD k true = true ↔ k ∈ p')) ∧ (∃ l ∈ Ls, p' <+: l.filter hv) ∧
          ∀ l, l ∈ Ls ∧ p' <+: l.filter hv → (p <+: l.filter hv) ∧ ∀ l1 l2, l.filter (unl listed) = l1 ++ i :: l2 → hv i = true → ∀ k ∈ l1, hv k = false := by
        have hlk : ∀ k, (listed.setIfInBounds i true).getD k true = true ↔ (listed.getD k true = true ∨ k = i) := fun k => by
          have := unl_set hsz k
          simp only [unl] at this
          by_cases e : k = i
          · subst e; simp at this; simp [this]
          · simp only [e, ne_eq, not_false_eq_true, decide_true, Bool.and_true, Bool.not_inj_iff] at this
            rw [this]; simp [e]
        by_cases hvi : hv i = true
        · have hip : i ∉ p := fun h => by
            have := (hp i hlt hvi).2 h
            rw [hno] at this; cases this
          obtain ⟨l, hlm, hlp⟩ := hne
          have hpt : (l.filter hv).take p.length = p := (List.prefix_iff_eq_take.1 hlp).symm
          have hx := hok.ext l hlm p.length i hlt hvi (by rw [hpt]; exact hip)
          rw [hpt] at hx
          rcases hx with ⟨k, hk1, hk2, hk3, y, hy', hk4⟩ | ⟨l', hl', hpre⟩
          · exfalso
            rw [hy] at hy'
            simp at hy'; subst hy'
            refine hwait k hk1 ?_ hk4
            have : ¬ listed.getD k true = true := fun h => hk3 ((hp k hk1 hk2).1 h)
            simp only [unl]; simpa using this
          · refine ⟨p ++ [i], fun k hk hvk => ?_, ⟨l', hl', hpre⟩, fun l ⟨hl, hpl⟩ => ⟨(List.prefix_append p [i]).trans hpl, fun l1 l2 he _ k hk => ?_⟩⟩
            · rw [hlk, List.mem_append, List.mem_singleton, hp k hk hvk]
            · cases hvk : hv k with
              | false => rfl
              | true =>
                exfalso
                obtain ⟨q, hq'⟩ := hpl
                have e1 : (l.filter (unl listed)).filter hv = (l.filter hv).filter (unl listed) := by
                  rw [List.filter_filter, List.filter_filter]; congr 1; funext a; rw [Bool.and_comm]
                obtain ⟨_, i1, i2⟩ := filter_set hsz (hok.nd l hl) he
                have hpn : p.filter (unl listed) = [] := by
                  rw [List.filter_eq_nil_iff]
                  intro b hb
                  have hbl : b ∈ l.filter hv := by rw [← hq']; simp [hb]
                  by_cases hbs : b < ops.size
                  · have := (hp b hbs (List.mem_filter.1 hbl).2).2 hb
                    simp only [unl]; rw [this]; simp
                  · simp [unl, Array.getD_eq_getD_getElem?, Array.getElem?_eq_none (by omega : listed.size ≤ b)]
                have hui : unl listed i = true := by simp [unl, hno]
                rw [he, ← hq', List.filter_append, List.filter_append, List.filter_append, hpn, List.filter_cons, List.filter_cons, if_pos hvi, if_pos hui] at e1
                simp only [List.filter_nil, List.nil_append, List.cons_append] at e1
                have hkl : k ∈ l1.filter hv := List.mem_filter.2 ⟨hk, hvk⟩
                cases hc : l1.filter hv with
                | nil => rw [hc] at hkl; simp at hkl
                | cons b bs =>
                  rw [hc] at e1
                  simp only [List.cons_append, List.cons.injEq] at e1
                  have : b ∈ l1.filter hv := by rw [hc]; simp
                  rw [e1.1] at this
                  exact i1 (List.mem_filter.1 this).1
        · refine ⟨p, fun k hk hvk => ?_, hne, fun l ⟨hl, hpl⟩ => ⟨hpl, fun l1 l2 he h => absurd h hvi⟩⟩
          rw [hlk, ← hp k hk hvk]
          constructor
          · rintro (h | rfl)
            · exact h
            · exact absurd hvk hvi
          · exact .inl
      have hstep : ∀ l, l ∈ Ls ∧ p' <+: l.filter hv → stepS P n ops S (hasD D i) ops[i] s (fun s' => opsS P n ops S D (l.filter (unl (listed.setIfInBounds i true))) s' K) := by
        intro l hl
        obtain ⟨hpl, hm2⟩ := hmov l hl
        have hr := hrun l ⟨hl.1, hpl⟩
        have him : i ∈ l.filter (unl listed) := List.mem_filter.2 ⟨hok.all l hl.1 i hlt, by simp [unl, hno]⟩
        obtain ⟨l1, l2, he⟩ := List.append_of_mem him
        obtain ⟨e2, i1, i2⟩ := filter_set hsz (hok.nd l hl.1) he
        have hpw : (l1 ++ i :: l2).Pairwise (fun k i => (hv k = true ∧ hv i = true) ∨ pOk D ops k i = true) := by rw [← he]; exact (hok.pw l hl.1).filter _
        rw [he] at hr
        have hfront := opsS_front hy l1 l2 s hS (fun k hk x hx => by
          have h1 := (List.pairwise_append.1 hpw).2.2 k hk i (by simp)
          have hku : unl listed k = true := by
            have : k ∈ l.filter (unl listed) := by rw [he]; simp [hk]
            exact (List.mem_filter.1 this).2
          have hks : k < ops.size := by
            rcases Nat.lt_or_ge k ops.size with h | h
            · exact h
            · rw [Array.getElem?_eq_none h] at hx; simp at hx
          rcases h1 with ⟨h1, h2⟩ | h1
          · have := hm2 l1 l2 he h2 k hk
            rw [h1] at this; cases this
          · unfold pOk at h1
            rw [hx, hy] at h1
            simp only [Bool.or_eq_true] at h1
            rcases h1 with h1 | h1
            · exact (hwait k hks hku h1).elim
            · exact h1) hr
        simp only [opsS] at hfront
        obtain ⟨y, hy', hst⟩ := hfront
        rw [hy] at hy'
        simp at hy'; subst hy'
        rw [e2]
        exact hst
      obtain ⟨l0, hl0, hl0p⟩ := hne'
      have hall := stepS_fam (F := fun l => l ∈ Ls ∧ p' <+: l.filter hv) (A := fun l s' => opsS P n ops S D (l.filter (unl (listed.setIfInBounds i true))) s' K) hu hS (l0 := l0) ⟨hl0, hl0p⟩ hstep
      refine stepS_real hS hy hall ha (fun j' s1 a' w' h1 h2 hS1 hrest => ?_)
      refine ih (listed.setIfInBounds i true) p' s1 j' a' w' (by simpa using hs) hcl' ?_ hS1 ⟨l0, hl0, hl0p⟩ hp' hrest h1 (fun j'' s'' a'' w'' g1 g2 g3 => hq j'' s'' a'' w'' g1 (h2.trans g2) g3)
      obtain ⟨l1, l2, e1, e2, e3⟩ := left_split hs hlt hno
      rw [e2]
      rw [e1] at hf
      simp at hf ⊢
      omega

def pwB (R : Nat → Nat → Bool) : List Nat → Bool
  | [] => true
  | k :: l => l.all (R k) && pwB R l
theorem pwB_of {R : Nat → Nat → Bool} : ∀ {l : List Nat}, pwB R l = true → l.Pairwise (fun a b => R a b = true)
  | [], _ => .nil
  | k :: l, h => by
    simp only [pwB, Bool.and_eq_true, List.all_eq_true] at h
    exact .cons h.1 (pwB_of h.2)
def wt (ops : Array Oper) (i k : Nat) : Bool := match ops[i]? with | some y => waitsT ops 6 y k | none => false
/-- Orders enough: all orders of the named operations that can come, one list for each; all others change places. -/
def famOk (D : List Nat) (ops : Array Oper) (hv : List Nat) (Ls : List (List Nat)) : Bool :=
  (List.range ops.size).all (fun i => match ops[i]? with | some y => (y.after.all fun e => !Region.binds .any e || decide (e.on < i)) && (userCall y.op).isNone | none => true) &&
  Ls.all (fun l => pwB (fun a b => decide (a ≠ b)) l && l.all (fun i => decide (i < ops.size)) && (List.range ops.size).all (fun i => l.contains i) && pwB (fun k i => (hv.contains k && hv.contains i) || pOk D ops k i) l) &&
  Ls.all (fun l => (List.range ((l.filter hv.contains).length + 1)).all fun m => hv.all fun i => ((l.filter hv.contains).take m).contains i || hv.any (fun k => decide (k < ops.size) && (!((l.filter hv.contains).take m).contains k && wt ops i k)) || Ls.any fun l' => (((l.filter hv.contains).take m) ++ [i]).isPrefixOf (l'.filter hv.contains))
theorem fam_of {D : List Nat} {ops : Array Oper} {hv : List Nat} {Ls : List (List Nat)} (h : famOk D ops hv Ls = true) : Fam D ops hv.contains Ls := by
  simp only [famOk, Bool.and_eq_true] at h
  obtain ⟨⟨h1, h2⟩, h3⟩ := h
  have one : ∀ (i : Nat) (y : Oper), ops[i]? = some y → (∀ e ∈ y.after, Region.binds .any e = true → e.on < i) ∧ userCall y.op = none := by
    intro i y hy
    have hi : i < ops.size := by
      rcases Nat.lt_or_ge i ops.size with h | h
      · exact h
      · rw [Array.getElem?_eq_none h] at hy; simp at hy
    have := List.all_eq_true.1 h1 i (by simpa using hi)
    rw [hy] at this
    simp only [Bool.and_eq_true] at this
    refine ⟨fun e he hb => ?_, by simpa using this.2⟩
    have h1 := Array.all_eq_true.1 this.1
    obtain ⟨m, hm, rfl⟩ := Array.mem_iff_getElem.1 he
    have := h1 m hm
    simpa [hb] using this
  have two : ∀ l ∈ Ls, _ := List.all_eq_true.1 h2
  refine ⟨fun i y hy => (one i y hy).1, fun i y hy => (one i y hy).2, fun l hl => ?_, fun l hl i hi => ?_, fun l hl i hi => ?_, fun l hl => ?_, fun l hl m i hi hvi hnot => ?_⟩
  · have := two l hl
    simp only [Bool.and_eq_true] at this
    exact (pwB_of this.1.1.1).imp (fun h => by simpa using h)
  · have := two l hl
    simp only [Bool.and_eq_true] at this
    have := List.all_eq_true.1 this.1.1.2 i hi
    simpa using this
  · have := two l hl
    simp only [Bool.and_eq_true] at this
    have := List.all_eq_true.1 this.1.2 i (by simpa using hi)
    simpa using this
  · have := two l hl
    simp only [Bool.and_eq_true] at this
    exact (pwB_of this.2).imp (fun h => by simpa only [Bool.or_eq_true, Bool.and_eq_true] using h)
  · have key : ∃ m', (l.filter hv.contains).take m = (l.filter hv.contains).take m' ∧ m' < (l.filter hv.contains).length + 1 := by
      rcases Nat.lt_or_ge m ((l.filter hv.contains).length + 1) with h | h
      · exact ⟨m, rfl, h⟩
      · exact ⟨(l.filter hv.contains).length, by rw [List.take_of_length_le (by omega), List.take_length], by omega⟩
    obtain ⟨m', e, hm'⟩ := key
    rw [e] at hnot ⊢
    have := List.all_eq_true.1 h3 l hl
    have := List.all_eq_true.1 this m' (by simpa using hm')
    have := List.all_eq_true.1 this i (by simpa using hvi)
    simp only [Bool.or_eq_true] at this
    rcases this with (this | this) | this
    · exact absurd (by simpa using this) hnot
    · obtain ⟨k, hk, hk2⟩ := List.any_eq_true.1 this
      simp only [Bool.and_eq_true, decide_eq_true_eq, Bool.not_eq_true'] at hk2
      obtain ⟨k1, k2, k3⟩ := hk2
      refine .inl ⟨k, k1, by simpa using hk, fun hm => ?_, ?_⟩
      · rw [List.contains_iff_mem.2 hm] at k2; cases k2
      · unfold wt at k3
        split at k3
        · exact ⟨_, by assumption, k3⟩
        · cases k3
    · obtain ⟨l', hl', hp⟩ := List.any_eq_true.1 this
      exact .inr ⟨l', hl', List.isPrefixOf_iff_prefix.1 hp⟩

/-! ### As one steps through it -/
def atN : List Oper → Nat → (Oper → Prop) → Prop
  | [], _, _ => False
  | o :: _, 0, f => f o
  | _ :: l, k + 1, f => atN l k f
theorem atN_zero (o : Oper) (l : List Oper) (f : Oper → Prop) : atN (o :: l) 0 f = f o := rfl
theorem atN_succ (o : Oper) (l : List Oper) (k : Nat) (f : Oper → Prop) : atN (o :: l) (k + 1) f = atN l k f := rfl
theorem atN_of : ∀ {l : List Oper} {k : Nat} {f : Oper → Prop}, atN l k f → ∃ o, l[k]? = some o ∧ f o
  | [], _, _, h => h.elim
  | o :: _, 0, _, h => ⟨o, rfl, h⟩
  | _ :: l, k + 1, _, h => by
    obtain ⟨o, h1, h2⟩ := atN_of (l := l) h
    exact ⟨o, by simpa using h1, h2⟩
def opsL (P : Program) (n : Nat) (l : List Oper) (S : Heap → Prop) (D : List Nat) : List Nat → St → (St → Prop) → Prop
  | [], s, K => K s
  | i :: is, s, K => atN l i (fun o => opsNS P n l.toArray S D i [o] s (fun s' => opsL P n l S D is s' K))
theorem opsL_nil (n : Nat) (l : List Oper) (S : Heap → Prop) (D : List Nat) (s : St) (K : St → Prop) : opsL P n l S D [] s K = K s := rfl
theorem opsL_cons (n : Nat) (l : List Oper) (S : Heap → Prop) (D : List Nat) (i : Nat) (is : List Nat) (s : St) (K : St → Prop) : opsL P n l S D (i :: is) s K = atN l i (fun o => opsNS P n l.toArray S D i [o] s (fun s' => opsL P n l S D is s' K)) := rfl
theorem opsNS_one {n : Nat} {ops : Array Oper} {S : Heap → Prop} {D : List Nat} {K : St → Prop} {o : Oper} {i : Nat} {s : St} (hS : S s.H) (h : opsNS P n ops S D i [o] s K) : stepS P n ops S (hasD D i) o s K := by
  simp only [opsNS] at h
  split at h
  · rename_i hg
    split at h
    · rename_i hd
      split at h
      · rename_i t x hop
        obtain ⟨hdk, r, h1, h2⟩ := h
        rw [hd]
        refine ⟨hdk, fun r1 H1 => r1 = r ∧ H1 = s.H, ?_, ?_⟩
        · simp only [legS, if_true]
          refine ⟨⟨r, s.H, rfl, rfl⟩, .inl ⟨by simp [gst, hg], r, fun H2 h3 => ?_, fun _ _ => Iff.rfl⟩⟩
          have h4 : sload P H2 t (sval s.σ x) = some r := h1 H2 h3
          rw [hop]
          simp only [sop, h4]
        · rintro _ _ ⟨rfl, rfl⟩
          exact ⟨hS, h2⟩
      · rename_i t x lo hi mx hop
        obtain ⟨hdk, r, h1, h2⟩ := h
        rw [hd]
        refine ⟨hdk, fun r1 H1 => r1 = r ∧ H1 = s.H, ?_, ?_⟩
        · simp only [legS, if_true]
          refine ⟨⟨r, s.H, rfl, rfl⟩, .inl ⟨by simp [gst, hg], r, fun H2 h3 => ?_, fun _ _ => Iff.rfl⟩⟩
          have h4 : sslice P H2 t (sval s.σ x) (lo.map (sval s.σ)) (hi.map (sval s.σ)) (mx.map (sval s.σ)) = some r := h1 H2 h3
          rw [hop]
          simp only [sop, h4]
        · rintro _ _ ⟨rfl, rfl⟩
          exact ⟨hS, h2⟩
      · exact h.elim
    · rename_i hd
      have hd : hasD D i = false := by simpa using hd
      rw [hd]
      split at h
      · exact stepN_S (stepN_mono (opN_leg (by simp [gst, hg]) h) fun s' g => ⟨g.1, g.2⟩)
      · rename_i hh
        have hh : heavy o.op = false := by simpa using hh
        refine stepN_S (stepN_mono (stepN_keep hh (opN_leg (by simp [gst, hg]) h)) fun s' g => ?_)
        have hS' : S s'.H := by rw [g.1]; exact hS
        exact ⟨hS', g.2⟩
  · exact h.elim
theorem opsS_of_opsL {n : Nat} {l : List Oper} {S : Heap → Prop} {D : List Nat} {K : St → Prop} : ∀ (is : List Nat) (s : St), S s.H → opsL P n l S D is s K → opsS P n l.toArray S D is s K
  | [], s, _, h => h
  | i :: is, s, hS, h => by
    rw [opsL_cons] at h
    obtain ⟨o, h1, h2⟩ := atN_of h
    exact ⟨o, by simpa using h1, stepS_mono (opsNS_one hS h2) fun s' hS' g => opsS_of_opsL is s' hS' g⟩
def opsLs (P : Program) (n : Nat) (l : List Oper) (S : Heap → Prop) (D : List Nat) : List (List Nat) → St → (St → Prop) → Prop
  | [], _, _ => True
  | is :: Ls, s, K => opsL P n l S D is s K ∧ opsLs P n l S D Ls s K
theorem opsLs_mem {n : Nat} {l : List Oper} {S : Heap → Prop} {D : List Nat} {s : St} {K : St → Prop} : ∀ {Ls : List (List Nat)}, opsLs P n l S D Ls s K → ∀ is ∈ Ls, opsL P n l S D is s K
  | [], _, is, h => by simp at h
  | is0 :: Ls, h, is, hm => by
    rcases List.mem_cons.1 hm with rfl | hm
    · exact h.1
    · exact opsLs_mem h.2 is hm
/-- A region that draws its order, operations that allocate among them: D the reads of what nothing changes, hv the operations whose orders matter, Ls one order of all for each order of these. -/
theorem SW.regionP {n : Nat} {id : Nat} {l : List Oper} {Q : Exit → St → Prop} {s : St} (S : Heap → Prop) (D hv : List Nat) (l0 : List Nat) (Ls : List (List Nat)) (hm : P.follows .mixedOrders = true) (hok : famOk D l.toArray hv (l0 :: Ls) = true) (hS : S s.H) (h : opsLs P n l S D (l0 :: Ls) s (Q .normal)) : SW P n (.region id l.toArray true) Q s := by
  intro j a w ha
  have hd : SAll n j s a w.drew := ⟨ha.rel.drew, ha.slots.nx ha.rel (Nx.drew j s.H w), ha.size, ha.defers⟩
  refine wp_region_any hm ?_
  have hleft : left l.toArray.size (Array.replicate l.toArray.size false) = List.range' 0 l.length := by
    unfold left
    rw [← List.range_eq_range']
    simp only [List.size_toArray]
    apply List.filter_eq_self.2
    intro k hk
    simp at hk
    simp [Array.getD_eq_getD_getElem?, hk]
  have hfam := fam_of hok
  refine wpAny_of_fam (K := Q .normal) hfam l.toArray.size _ [] s j a w.drew (by simp) (fun m y _ h => by simp [Array.getD_eq_getD_getElem?, Array.getElem?_replicate] at h; split at h <;> simp at h) (by rw [hleft]; simp) hS ⟨l0, by simp, List.nil_prefix⟩ ?_ ?_ hd (fun j' s' a' w' h1 h2 h3 => ⟨j', s', h1, (Nx.drew j s.H w).trans h2, h3⟩)
  · intro i hi _
    simp at hi
    simp [Array.getD_eq_getD_getElem?, hi]
  · rintro is ⟨hm, _⟩
    have hr := opsS_of_opsL (P := P) is s hS (opsLs_mem h is hm)
    have e : is.filter (unl (Array.replicate l.toArray.size false)) = is := List.filter_eq_self.2 fun k hk => by
      have := hfam.bd is hm k hk
      simp at this
      simp [unl, Array.getD_eq_getD_getElem?, this]
    rw [e]; exact hr
theorem LoadS.rptr {t : TypeId} {cs : List SV} {off : Nat} {S : Heap → Prop} {k : SV → Prop} (h : @bindV (sload P (hp [] 0) t (.rptr cs off)) ⟨k⟩) : @LoadS P t (.rptr cs off) ⟨S, k⟩ := by
  cases hs : sload P (hp [] 0) t (.rptr cs off) with
  | none => rw [hs] at h; exact h.elim
  | some r => rw [hs] at h; exact ⟨r, fun H2 _ => by rw [← hs]; rfl, h⟩
theorem SliceS.own {t : TypeId} {b off m cap sz : Nat} {ex : Bool} {lo hi mx : Option SV} {S : Heap → Prop} {k : SV → Prop} (h : @bindV (sslice P (hp [] 0) t (.own b off m cap sz ex) lo hi mx) ⟨k⟩) : @SliceS P t (.own b off m cap sz ex) lo hi mx ⟨S, k⟩ := by
  cases hs : sslice P (hp [] 0) t (.own b off m cap sz ex) lo hi mx with
  | none => rw [hs] at h; exact h.elim
  | some r => rw [hs] at h; exact ⟨r, fun H2 _ => by rw [← hs]; rfl, h⟩
attribute [go_sem ↓] opsL_nil opsL_cons atN_zero atN_succ
end Go.Sh

/-
  The law FnPacking, walked: the bound of a packing is a lower bound of the cost of every partition, and the greedy packing is a packing to which no triangle can be added.
-/
namespace Go.Sh
set_option linter.unusedSimpArgs false
set_option linter.unusedVariables false
open Go Go.RowKit Go.Proofs

theorem encT_flat : ∀ T : List Tri, (encL tri4 T).all flat = true
  | [] => rfl
  | t :: T => by rw [encL_cons, List.all_append, encT_flat T]; rfl
set_option maxRecDepth 20000 in
set_option maxHeartbeats 8000000 in
theorem Try.fnPacking_ok (B : List Int) (hBw : B.length ≤ 9223372036854775807) : PCall Try.prog 3 [rby B] (.val (.bool true)) := by
  have wbig := Try.big_ok B hBw
  refine FCall.pcall (R := fun r _ => r = .val (.bool true)) ?_ 0 (by rintro r H rfl; exact view_bool)
  refine FCall.of_body Try.func3 rfl (by kernel_rfl) (by simp [Try.ntmps3]) ?_
  refine SW.seqW ⟨ofL [(0, rby B)], hp [] 0⟩ ?_ ?_
  · refine SW_of_vc Try.mixed _ _ _ (by kernel_rfl) ?_
    simp (disch := omega) only [Try.ntmps3, Try.results3, go_sem, rby, rr_eq, rt, bne_self_eq_false, beq_self_eq_true]
    exact Wk.of (by simp only [go_sem, ↓List.forall_mem_cons, List.not_mem_nil, false_implies, implies_true, and_true, true_and, and_self, ri_eq, Int.natCast_add, Int.cast_ofNat_Int, rby]; try simp) rfl
  refine SW.seqI (fun _ : Unit => ⟨ofL [(0, rby B)], hp [] 0⟩) (fun _ => B.length ≤ 1048576) ?_ ?_
  · by_cases hB : 1048576 < B.length
    · rw [decide_eq_true hB] at wbig
      refine SW_of_vc Try.mixed _ _ _ (by kernel_rfl) ?_
      simp (disch := omega) only [Try.ntmps3, Try.results3, go_sem, rby, rr_eq, rt, bne_self_eq_false, beq_self_eq_true]
      refine wbig.callV 0 (viewL_cons_of (view_row) viewL_nil_of) ?_
      simp (disch := omega) only [Try.ntmps3, Try.results3, go_sem, rby, rr_eq, rt, bne_self_eq_false, beq_self_eq_true]
      exact Fin.val rfl
    · rw [decide_eq_false hB] at wbig
      refine SW_of_vc Try.mixed _ _ _ (by kernel_rfl) ?_
      simp (disch := omega) only [Try.ntmps3, Try.results3, go_sem, rby, rr_eq, rt, bne_self_eq_false, beq_self_eq_true]
      refine wbig.callV 0 (viewL_cons_of (view_row) viewL_nil_of) ?_
      simp (disch := omega) only [Try.ntmps3, Try.results3, go_sem, rby, rr_eq, rt, bne_self_eq_false, beq_self_eq_true]
      exact ⟨(), by omega, Wk.of (by simp only [go_sem, ↓List.forall_mem_cons, List.not_mem_nil, false_implies, implies_true, and_true, true_and, and_self, ri_eq, Int.natCast_add, Int.cast_ofNat_Int, rby]; try simp) rfl⟩
  intro _ hB
  refine SW.seqI (fun y : List (List Int) × List Int × List Tri => ⟨ofL [(3, rr y.1), (4, ri y.2.1), (5, rt y.2.2)], hp [] 0⟩) (fun y => y.1.length ≤ 7 ∧ (∀ i, i < y.1.length → (mrow y.1 i).length ≤ 6) ∧ y.2.1.length ≤ 9 ∧ y.2.2.length ≤ 57) ?_ ?_
  · refine SW_of_vc Try.mixed _ _ _ (by kernel_rfl) ?_
    simp (disch := omega) only [Try.ntmps3, Try.results3, go_sem, rby, rr_eq, rt, bne_self_eq_false, beq_self_eq_true]
    refine (Try.drawGap_e B hB).callE 0 (viewL_cons_of (view_row) viewL_nil_of) ?_
    rintro X ⟨M, L, T, rfl, hM7, hR6, hL9, hT⟩
    simp (disch := omega) only [Try.ntmps3, Try.results3, go_sem, rby, rr_eq, rt, bne_self_eq_false, beq_self_eq_true]
    exact ⟨(M, L, T), ⟨hM7, hR6, hL9, hT⟩, Wk.of (by simp only [go_sem, ↓List.forall_mem_cons, List.not_mem_nil, false_implies, implies_true, and_true, true_and, and_self, ri_eq, Int.natCast_add, Int.cast_ofNat_Int, rr_eq, rt]; try simp) rfl⟩
  rintro ⟨M, L, T⟩ ⟨hM7, hR6, hL9, hT57⟩
  simp only at hM7 hR6 hL9 hT57
  have hM : M.length ≤ 1048576 := by omega
  have hR : ∀ i, i < M.length → (mrow M i).length ≤ 1048576 := fun i hi => by have := hR6 i hi; omega
  have hL : L.length ≤ 1048576 := by omega
  have hT : T.length ≤ 1048576 := by omega
  have w1 := Try.implBound_ok M T hM hR hT
  have w2 := Try.specBound_ok M T hM hR hT
  have w3 := Try.implPack_ok M T hM hR hT
  have w4 := Try.specPack_ok M T hM hR hT
  have w5 := Try.implGap_ok M L T hM hR hL hT
  have w6 := Try.specGap_ok M L T hM hR hL hT
  have w7 := Try.specPartitionCost_ok M L hM hR hL
  have hbc := bound_cost (M := M) (T := T) (L := L)
  refine SW.seqW ⟨ofL [(3, rr M), (4, ri L), (5, rt T), (6, .val (.int .i64 (boundOf M T)))], hp [] 0⟩ ?_ ?_
  · refine SW_of_vc Try.mixed _ _ _ (by kernel_rfl) ?_
    simp (disch := omega) only [Try.ntmps3, Try.results3, go_sem, rby, rr_eq, rt, bne_self_eq_false, beq_self_eq_true]
    refine w1.callV 0 (viewL_cons_of (view_row) (viewL_cons_of (view_row) viewL_nil_of)) ?_
    simp (disch := omega) only [Try.ntmps3, Try.results3, go_sem, rby, rr_eq, rt, bne_self_eq_false, beq_self_eq_true]
    exact Wk.of (by simp only [go_sem, ↓List.forall_mem_cons, List.not_mem_nil, false_implies, implies_true, and_true, true_and, and_self, ri_eq, Int.natCast_add, Int.cast_ofNat_Int, rr_eq, rt]; try simp) rfl
  refine SW.seqW ⟨ofL [(3, rr M), (4, ri L), (6, .val (.int .i64 (boundOf M T)))], hp [] 0⟩ ?_ ?_
  · refine SW_of_vc Try.mixed _ _ _ (by kernel_rfl) ?_
    simp (disch := omega) only [Try.ntmps3, Try.results3, go_sem, rby, rr_eq, rt, bne_self_eq_false, beq_self_eq_true]
    refine w2.callV 0 (viewL_cons_of (view_row) (viewL_cons_of (view_row) viewL_nil_of)) ?_
    simp (disch := omega) only [Try.ntmps3, Try.results3, go_sem, rby, rr_eq, rt, bne_self_eq_false, beq_self_eq_true]
    refine w3.callV 0 (viewL_cons_of (view_row) (viewL_cons_of (view_row) viewL_nil_of)) ?_
    simp (disch := omega) only [Try.ntmps3, Try.results3, go_sem, rby, rr_eq, rt, bne_self_eq_false, beq_self_eq_true]
    refine w4.callV 0 (viewL_cons_of (view_row) (viewL_cons_of (view_row) viewL_nil_of)) ?_
    simp (disch := omega) only [Try.ntmps3, Try.results3, go_sem, rby, rr_eq, rt, bne_self_eq_false, beq_self_eq_true]
    refine w5.callV 0 (viewL_cons_of (view_row) (viewL_cons_of (view_row) (viewL_cons_of (view_row) viewL_nil_of))) ?_
    simp (disch := omega) only [Try.ntmps3, Try.results3, go_sem, rby, rr_eq, rt, bne_self_eq_false, beq_self_eq_true]
    refine w6.callV 0 (viewL_cons_of (view_row) (viewL_cons_of (view_row) (viewL_cons_of (view_row) viewL_nil_of))) ?_
    simp (disch := omega) only [Try.ntmps3, Try.results3, go_sem, rby, rr_eq, rt, bne_self_eq_false, beq_self_eq_true]
    exact Wk.of (by simp only [go_sem, ↓List.forall_mem_cons, List.not_mem_nil, false_implies, implies_true, and_true, true_and, and_self, ri_eq, Int.natCast_add, Int.cast_ofNat_Int, rr_eq, rt]; try simp) rfl
  refine SW.seqW ⟨ofL [(3, rr M), (6, .val (.int .i64 (boundOf M T))), (7, .val (.int .i64 (pcost M L)))], hp [] 0⟩ ?_ ?_
  · refine SW_of_vc Try.mixed _ _ _ (by kernel_rfl) ?_
    simp (disch := omega) only [Try.ntmps3, Try.results3, go_sem, rby, rr_eq, rt, bne_self_eq_false, beq_self_eq_true]
    refine w7.callV 0 (viewL_cons_of (view_row) (viewL_cons_of (view_row) viewL_nil_of)) ?_
    simp (disch := omega) only [Try.ntmps3, Try.results3, go_sem, rby, rr_eq, rt, bne_self_eq_false, beq_self_eq_true]
    exact Wk.of (by simp only [go_sem, ↓List.forall_mem_cons, List.not_mem_nil, false_implies, implies_true, and_true, true_and, and_self, ri_eq, Int.natCast_add, Int.cast_ofNat_Int, rr_eq, rt]; try simp) rfl
  refine SW.seqW ⟨ofL [(3, rr M)], hp [] 0⟩ ?_ ?_
  · generalize boundOf M T = n at *
    generalize pcost M L = c at *
    by_cases hc : 0 ≤ c
    · have := hbc hc
      refine SW_of_vc Try.mixed _ _ _ (by kernel_rfl) ?_
      simp (disch := omega) only [Try.ntmps3, Try.results3, go_sem, rby, rr_eq, rt, bne_self_eq_false, beq_self_eq_true]
      exact Wk.of (by simp only [go_sem, ↓List.forall_mem_cons, List.not_mem_nil, false_implies, implies_true, and_true, true_and, and_self, ri_eq, Int.natCast_add, Int.cast_ofNat_Int, rr_eq, rt]; try simp) rfl
    · by_cases hn : c < n
      · refine SW_of_vc Try.mixed _ _ _ (by kernel_rfl) ?_
        simp (disch := omega) only [Try.ntmps3, Try.results3, go_sem, rby, rr_eq, rt, bne_self_eq_false, beq_self_eq_true]
        exact Wk.of (by simp only [go_sem, ↓List.forall_mem_cons, List.not_mem_nil, false_implies, implies_true, and_true, true_and, and_self, ri_eq, Int.natCast_add, Int.cast_ofNat_Int, rr_eq, rt]; try simp) rfl
      · refine SW_of_vc Try.mixed _ _ _ (by kernel_rfl) ?_
        simp (disch := omega) only [Try.ntmps3, Try.results3, go_sem, rby, rr_eq, rt, bne_self_eq_false, beq_self_eq_true]
        exact Wk.of (by simp only [go_sem, ↓List.forall_mem_cons, List.not_mem_nil, false_implies, implies_true, and_true, true_and, and_self, ri_eq, Int.natCast_add, Int.cast_ofNat_Int, rr_eq, rt]; try simp) rfl
  clear w1 w2 w3 w4 w5 w6 w7 hbc hT hT57 hL hL9
  clear T L
  have hgl := gr_len56 M
  have hbl := badT_len8 M
  have w1 := Try.implGr_ok M hM hR
  have w2 := Try.specGr_ok M hM hR
  have w3 := Try.implBadT_ok M hM hR
  have w4 := Try.specBadT_ok M hM hR
  have w5 := Try.specIsWM_ok M hM hR
  refine SW.seqW ⟨ofL [(3, rr M), (8, rt (gr M))], hp [] 0⟩ ?_ ?_
  · refine SW_of_vc Try.mixed _ _ _ (by kernel_rfl) ?_
    simp (disch := omega) only [Try.ntmps3, Try.results3, go_sem, rby, rr_eq, rt, bne_self_eq_false, beq_self_eq_true]
    refine w1.callV 0 (viewL_cons_of (view_row) viewL_nil_of) ?_
    simp (disch := omega) only [Try.ntmps3, Try.results3, go_sem, rby, rr_eq, rt, bne_self_eq_false, beq_self_eq_true]
    exact Wk.of (by simp only [go_sem, ↓List.forall_mem_cons, List.not_mem_nil, false_implies, implies_true, and_true, true_and, and_self, ri_eq, Int.natCast_add, Int.cast_ofNat_Int, rr_eq, rt]; try simp) rfl
  refine SW.seqW ⟨ofL [(3, rr M), (8, rt (gr M)), (9, rt (gr M))], hp [] 0⟩ ?_ ?_
  · refine SW_of_vc Try.mixed _ _ _ (by kernel_rfl) ?_
    simp (disch := omega) only [Try.ntmps3, Try.results3, go_sem, rby, rr_eq, rt, bne_self_eq_false, beq_self_eq_true]
    refine w2.callV 0 (viewL_cons_of (view_row) viewL_nil_of) ?_
    simp (disch := omega) only [Try.ntmps3, Try.results3, go_sem, rby, rr_eq, rt, bne_self_eq_false, beq_self_eq_true]
    exact Wk.of (by simp only [go_sem, ↓List.forall_mem_cons, List.not_mem_nil, false_implies, implies_true, and_true, true_and, and_self, ri_eq, Int.natCast_add, Int.cast_ofNat_Int, rr_eq, rt]; try simp) rfl
  refine SW.seqW ⟨ofL [(3, rr M), (8, rt (gr M)), (9, rt (gr M)), (10, rt (badT M))], hp [] 0⟩ ?_ ?_
  · refine SW_of_vc Try.mixed _ _ _ (by kernel_rfl) ?_
    simp (disch := omega) only [Try.ntmps3, Try.results3, go_sem, rby, rr_eq, rt, bne_self_eq_false, beq_self_eq_true]
    refine w3.callV 0 (viewL_cons_of (view_row) viewL_nil_of) ?_
    simp (disch := omega) only [Try.ntmps3, Try.results3, go_sem, rby, rr_eq, rt, bne_self_eq_false, beq_self_eq_true]
    exact Wk.of (by simp only [go_sem, ↓List.forall_mem_cons, List.not_mem_nil, false_implies, implies_true, and_true, true_and, and_self, ri_eq, Int.natCast_add, Int.cast_ofNat_Int, rr_eq, rt]; try simp) rfl
  refine SW.seqW ⟨ofL [(3, rr M), (8, rt (gr M)), (9, rt (gr M)), (10, rt (badT M)), (11, rt (badT M))], hp [] 0⟩ ?_ ?_
  · refine SW_of_vc Try.mixed _ _ _ (by kernel_rfl) ?_
    simp (disch := omega) only [Try.ntmps3, Try.results3, go_sem, rby, rr_eq, rt, bne_self_eq_false, beq_self_eq_true]
    refine w4.callV 0 (viewL_cons_of (view_row) viewL_nil_of) ?_
    simp (disch := omega) only [Try.ntmps3, Try.results3, go_sem, rby, rr_eq, rt, bne_self_eq_false, beq_self_eq_true]
    exact Wk.of (by simp only [go_sem, ↓List.forall_mem_cons, List.not_mem_nil, false_implies, implies_true, and_true, true_and, and_self, ri_eq, Int.natCast_add, Int.cast_ofNat_Int, rr_eq, rt]; try simp) rfl
  refine SW.seqI (fun _ : Unit => ⟨ofL [(3, rr M), (8, rt (gr M)), (9, rt (gr M)), (10, rt (badT M)), (11, rt (badT M))], hp [] 0⟩) (fun _ => WM M) ?_ ?_
  · generalize gr M = G at *
    generalize badT M = U at *
    by_cases hw : WM M
    · rw [isWM_t hw] at w5
      refine SW_of_vc Try.mixed _ _ _ (by kernel_rfl) ?_
      simp (disch := omega) only [Try.ntmps3, Try.results3, go_sem, rby, rr_eq, rt, bne_self_eq_false, beq_self_eq_true]
      refine w5.callV 0 (viewL_cons_of (view_row) viewL_nil_of) ?_
      simp (disch := omega) only [Try.ntmps3, Try.results3, go_sem, rby, rr_eq, rt, bne_self_eq_false, beq_self_eq_true]
      exact ⟨(), hw, Wk.of (by simp only [go_sem, ↓List.forall_mem_cons, List.not_mem_nil, false_implies, implies_true, and_true, true_and, and_self, ri_eq, Int.natCast_add, Int.cast_ofNat_Int, rr_eq, rt]; try simp) rfl⟩
    · rw [isWM_f hw] at w5
      refine SW_of_vc Try.mixed _ _ _ (by kernel_rfl) ?_
      simp (disch := omega) only [Try.ntmps3, Try.results3, go_sem, rby, rr_eq, rt, bne_self_eq_false, beq_self_eq_true]
      refine w5.callV 0 (viewL_cons_of (view_row) viewL_nil_of) ?_
      simp (disch := omega) only [Try.ntmps3, Try.results3, go_sem, rby, rr_eq, rt, bne_self_eq_false, beq_self_eq_true]
      exact Fin.val rfl
  intro _ hw
  have hpk := gr_pack hw
  have hmore := fun k (hk : k < (badT M).length) => gr_more hk
  have hbt := fun k (hk : k < (badT M).length) => badT_isBT hw hk
  have hbb := bound_best (T := gr M) hw
  generalize gr M = G at *
  generalize badT M = U at *
  have lG := encL_length (enc := tri4) (z := 4) tri4_z G
  have lU := encL_length (enc := tri4) (z := 4) tri4_z U
  refine SW.seqW ⟨ofL [(3, rr M), (8, rt G), (10, rt U), (11, rt U)], hp [] 0⟩ ?_ ?_
  · refine SW_of_vc Try.mixed _ _ _ (by kernel_rfl) ?_
    simp (disch := omega) only [Try.ntmps3, Try.results3, go_sem, rby, rr_eq, rt, bne_self_eq_false, beq_self_eq_true]
    refine LoopW.loop (fun i : Nat => ⟨ofL [(3, rr M), (8, rt G), (9, rt G), (10, rt U), (11, rt U), (12, .val (.int .i64 i))], hp [] 0⟩) (fun i => i ≤ G.length) (fun i => G.length - i) 0 (by omega) (Wk.of (by simp only [go_sem, ↓List.forall_mem_cons, List.not_mem_nil, false_implies, implies_true, and_true, true_and, and_self, ri_eq, Int.natCast_add, Int.cast_ofNat_Int, rr_eq, rt]; try simp) rfl) ?_
    intro i hi
    refine SW_of_vc Try.mixed _ _ _ (by kernel_rfl) ?_
    by_cases hlt : i < G.length
    · obtain ⟨a, b, c, x, et⟩ := tri_ex G i
      obtain ⟨q1, q2, q3, q4, q5⟩ := tri_of hlt et
      simp (disch := omega) only [Try.ntmps3, Try.results3, go_sem, rby, rr_eq, rt, bne_self_eq_false, beq_self_eq_true, q1, q2, q3, q4, q5, lG]
      exact ⟨i + 1, by omega, by omega, Wk.of (by simp only [go_sem, ↓List.forall_mem_cons, List.not_mem_nil, false_implies, implies_true, and_true, true_and, and_self, ri_eq, Int.natCast_add, Int.cast_ofNat_Int, rr_eq, rt]; try simp) rfl⟩
    · simp (disch := omega) only [Try.ntmps3, Try.results3, go_sem, rby, rr_eq, rt, bne_self_eq_false, beq_self_eq_true]
      exact Wk.of (by simp only [go_sem, ↓List.forall_mem_cons, List.not_mem_nil, false_implies, implies_true, and_true, true_and, and_self, ri_eq, Int.natCast_add, Int.cast_ofNat_Int, rr_eq, rt]; try simp) rfl
  refine SW.seqI (fun nb : Nat => ⟨ofL [(3, rr M), (8, rt G)], hp [] nb⟩) (fun _ => True) ?_ ?_
  · refine SW.seqW ⟨ofL [(3, rr M), (8, rt G), (10, rt U), (11, rt U), (13, .val (.int .i64 0))], hp [] 0⟩ ?_ ?_
    · refine SW_of_vc Try.mixed _ _ _ (by kernel_rfl) ?_
      simp (disch := omega) only [Try.ntmps3, Try.results3, go_sem, rby, rr_eq, rt, bne_self_eq_false, beq_self_eq_true]
      exact Wk.of (by simp only [go_sem, ↓List.forall_mem_cons, List.not_mem_nil, false_implies, implies_true, and_true, true_and, and_self, ri_eq, Int.natCast_add, Int.cast_ofNat_Int, rr_eq, rt]; try simp) rfl
    refine SW.block ?_
    refine LoopW.loop (fun y : Nat × Nat => ⟨ofL [(3, rr M), (8, rt G), (10, rt U), (11, rt U), (13, .val (.int .i64 y.1))], hp [] y.2⟩) (fun y => y.1 ≤ U.length) (fun y => U.length - y.1) (0, 0) (by omega) (Wk.of (by simp only [go_sem, ↓List.forall_mem_cons, List.not_mem_nil, false_implies, implies_true, and_true, true_and, and_self, ri_eq, Int.natCast_add, Int.cast_ofNat_Int, rr_eq, rt]; try simp) rfl) ?_
    rintro ⟨i, nb⟩ hi
    simp only at hi
    refine SW.seqI (fun _ : Unit => ⟨ofL [(3, rr M), (8, rt G), (10, rt U), (11, rt U), (13, .val (.int .i64 i))], hp [] nb⟩) (fun _ => i < U.length) ?_ ?_
    · refine SW_of_vc Try.mixed _ _ _ (by kernel_rfl) ?_
      by_cases hlt : i < U.length
      · simp (disch := omega) only [Try.ntmps3, Try.results3, go_sem, rby, rr_eq, rt, bne_self_eq_false, beq_self_eq_true]
        exact ⟨(), hlt, Wk.of (by simp only [go_sem, ↓List.forall_mem_cons, List.not_mem_nil, false_implies, implies_true, and_true, true_and, and_self, ri_eq, Int.natCast_add, Int.cast_ofNat_Int, rr_eq, rt]; try simp) rfl⟩
      · simp (disch := omega) only [Try.ntmps3, Try.results3, go_sem, rby, rr_eq, rt, bne_self_eq_false, beq_self_eq_true]
        exact ⟨nb, Wk.of (by simp only [go_sem, ↓List.forall_mem_cons, List.not_mem_nil, false_implies, implies_true, and_true, true_and, and_self, ri_eq, Int.natCast_add, Int.cast_ofNat_Int, rr_eq, rt]; try simp) rfl⟩
    intro _ hlt
    obtain ⟨a, b, c, x, et⟩ := tri_ex U i
    obtain ⟨r1, r2, r3, r4, r5⟩ := tri_of hlt et
    have hm := hmore i hlt
    have hb := hbt i hlt
    rw [et] at hm hb
    simp only at hm hb
    have tG := encL_take_self (enc := tri4) (z := 4) tri4_z G
    have hsn := tri_snoc G a b c 1
    have wb := Try.implIsBT_ok M a b c hM hR
    rw [hb] at wb
    have wm := Try.implPack_ok M (G ++ [(a, b, c, 1)]) hM hR (by simp; omega)
    rw [hm] at wm
    have hl1 : (G ++ [(a, b, c, (1 : Int))]).length = G.length + 1 := by simp
    have hfl := encT_flat G
    have hfl1 := tri_flat1 a b c 1
    refine SW.seqI (fun nb : Nat => ⟨ofL [(3, rr M), (8, rt G), (10, rt U), (11, rt U), (13, .val (.int .i64 i))], hp [] nb⟩) (fun _ => True) ?_ ?_
    · refine SW.block ?_
      refine SW.seqI (fun y : Nat × Nat => ⟨ofL [(3, rr M), (8, rt G), (10, rt U), (11, rt U), (13, .val (.int .i64 i)), (14, .own y.1 0 (G.length + 1) (G.length + 1) 4 false)], hp [(y.1, ⟨encL tri4 (G ++ [(a, b, c, 1)]), false⟩)] y.2⟩) (fun _ => True) ?_ ?_
      · by_cases hG : G.length = 0
        · obtain rfl := List.length_eq_zero_iff.1 hG
          refine SW.regionP (fun _ => True) [7, 12, 17] [0, 2, 19, 20] [0, 1, 2, 3, 4, 5, 6, 7, 8, 9, 10, 11, 12, 13, 14, 15, 16, 17, 18, 19, 20, 21] [[0, 3, 4, 5, 6, 7, 8, 9, 10, 11, 12, 13, 14, 15, 16, 17, 18, 19, 1, 2, 20, 21], [3, 4, 5, 6, 7, 8, 9, 10, 11, 12, 13, 14, 15, 16, 17, 18, 19, 0, 1, 2, 20, 21]] Try.mixed (by kernel_rfl) trivial ⟨?_, ?_, ?_, trivial⟩
          · simp (disch := omega) only [Try.ntmps3, Try.results3, go_sem, rby, rr_eq, rt, bne_self_eq_false, beq_self_eq_true, r1, r2, r3, r4, r5, lU, lG, tG, hsn, rep_zero, rep4c, hfl, hfl1]
            refine LoadS.rptr ?_
            simp (disch := omega) only [Try.ntmps3, Try.results3, go_sem, rby, rr_eq, rt, bne_self_eq_false, beq_self_eq_true, r1, r2, r3, r4, r5, lU, lG, tG, hsn, rep_zero, rep4c, hfl, hfl1]
            refine LoadS.rptr ?_
            simp (disch := omega) only [Try.ntmps3, Try.results3, go_sem, rby, rr_eq, rt, bne_self_eq_false, beq_self_eq_true, r1, r2, r3, r4, r5, lU, lG, tG, hsn, rep_zero, rep4c, hfl, hfl1]
            refine LoadS.rptr ?_
            simp (disch := omega) only [Try.ntmps3, Try.results3, go_sem, rby, rr_eq, rt, bne_self_eq_false, beq_self_eq_true, r1, r2, r3, r4, r5, lU, lG, tG, hsn, rep_zero, rep4c, hfl, hfl1]
            exact ⟨(nb + 1 + 1, nb + 1 + 1 + 1), Wk.ofH (by simp only [go_sem, ↓List.forall_mem_cons, List.not_mem_nil, false_implies, implies_true, and_true, true_and, and_self, ri_eq, Int.natCast_add, Int.cast_ofNat_Int, rr_eq, rt]; try simp) (by simp [hp, hmap, encL, tri4]) (by simp [hp])⟩
          · simp (disch := omega) only [Try.ntmps3, Try.results3, go_sem, rby, rr_eq, rt, bne_self_eq_false, beq_self_eq_true, r1, r2, r3, r4, r5, lU, lG, tG, hsn, rep_zero, rep4c, hfl, hfl1]
            refine LoadS.rptr ?_
            simp (disch := omega) only [Try.ntmps3, Try.results3, go_sem, rby, rr_eq, rt, bne_self_eq_false, beq_self_eq_true, r1, r2, r3, r4, r5, lU, lG, tG, hsn, rep_zero, rep4c, hfl, hfl1]
            refine LoadS.rptr ?_
            simp (disch := omega) only [Try.ntmps3, Try.results3, go_sem, rby, rr_eq, rt, bne_self_eq_false, beq_self_eq_true, r1, r2, r3, r4, r5, lU, lG, tG, hsn, rep_zero, rep4c, hfl, hfl1]
            refine LoadS.rptr ?_
            simp (disch := omega) only [Try.ntmps3, Try.results3, go_sem, rby, rr_eq, rt, bne_self_eq_false, beq_self_eq_true, r1, r2, r3, r4, r5, lU, lG, tG, hsn, rep_zero, rep4c, hfl, hfl1]
            exact ⟨(nb + 1 + 1, nb + 1 + 1 + 1), Wk.ofH (by simp only [go_sem, ↓List.forall_mem_cons, List.not_mem_nil, false_implies, implies_true, and_true, true_and, and_self, ri_eq, Int.natCast_add, Int.cast_ofNat_Int, rr_eq, rt]; try simp) (by simp [hp, hmap, encL, tri4]) (by simp [hp])⟩
          · simp (disch := omega) only [Try.ntmps3, Try.results3, go_sem, rby, rr_eq, rt, bne_self_eq_false, beq_self_eq_true, r1, r2, r3, r4, r5, lU, lG, tG, hsn, rep_zero, rep4c, hfl, hfl1]
            refine LoadS.rptr ?_
            simp (disch := omega) only [Try.ntmps3, Try.results3, go_sem, rby, rr_eq, rt, bne_self_eq_false, beq_self_eq_true, r1, r2, r3, r4, r5, lU, lG, tG, hsn, rep_zero, rep4c, hfl, hfl1]
            refine LoadS.rptr ?_
            simp (disch := omega) only [Try.ntmps3, Try.results3, go_sem, rby, rr_eq, rt, bne_self_eq_false, beq_self_eq_true, r1, r2, r3, r4, r5, lU, lG, tG, hsn, rep_zero, rep4c, hfl, hfl1]
            refine LoadS.rptr ?_
            simp (disch := omega) only [Try.ntmps3, Try.results3, go_sem, rby, rr_eq, rt, bne_self_eq_false, beq_self_eq_true, r1, r2, r3, r4, r5, lU, lG, tG, hsn, rep_zero, rep4c, hfl, hfl1]
            exact ⟨(nb + 1 + 1, nb + 1 + 1 + 1), Wk.ofH (by simp only [go_sem, ↓List.forall_mem_cons, List.not_mem_nil, false_implies, implies_true, and_true, true_and, and_self, ri_eq, Int.natCast_add, Int.cast_ofNat_Int, rr_eq, rt]; try simp) (by simp [hp, hmap, encL, tri4]) (by simp [hp])⟩
        · skip
          refine SW.regionP (fun _ => True) [7, 12, 17] [0, 2, 19, 20] [0, 1, 2, 3, 4, 5, 6, 7, 8, 9, 10, 11, 12, 13, 14, 15, 16, 17, 18, 19, 20, 21] [[0, 3, 4, 5, 6, 7, 8, 9, 10, 11, 12, 13, 14, 15, 16, 17, 18, 19, 1, 2, 20, 21], [3, 4, 5, 6, 7, 8, 9, 10, 11, 12, 13, 14, 15, 16, 17, 18, 19, 0, 1, 2, 20, 21]] Try.mixed (by kernel_rfl) trivial ⟨?_, ?_, ?_, trivial⟩
          · simp (disch := omega) only [Try.ntmps3, Try.results3, go_sem, rby, rr_eq, rt, bne_self_eq_false, beq_self_eq_true, r1, r2, r3, r4, r5, lU, lG, tG, hsn, rep_zero, rep4c, hfl, hfl1]
            refine LoadS.rptr ?_
            simp (disch := omega) only [Try.ntmps3, Try.results3, go_sem, rby, rr_eq, rt, bne_self_eq_false, beq_self_eq_true, r1, r2, r3, r4, r5, lU, lG, tG, hsn, rep_zero, rep4c, hfl, hfl1]
            refine LoadS.rptr ?_
            simp (disch := omega) only [Try.ntmps3, Try.results3, go_sem, rby, rr_eq, rt, bne_self_eq_false, beq_self_eq_true, r1, r2, r3, r4, r5, lU, lG, tG, hsn, rep_zero, rep4c, hfl, hfl1]
            refine LoadS.rptr ?_
            simp (disch := omega) only [Try.ntmps3, Try.results3, go_sem, rby, rr_eq, rt, bne_self_eq_false, beq_self_eq_true, r1, r2, r3, r4, r5, lU, lG, tG, hsn, rep_zero, rep4c, hfl, hfl1]
            exact ⟨(nb + 1 + 1 + 1, nb + 1 + 1 + 1 + 1), Wk.ofH (by simp only [go_sem, ↓List.forall_mem_cons, List.not_mem_nil, false_implies, implies_true, and_true, true_and, and_self, ri_eq, Int.natCast_add, Int.cast_ofNat_Int, rr_eq, rt]; try simp) (by simp [hp, hmap]) (by simp [hp])⟩
          · simp (disch := omega) only [Try.ntmps3, Try.results3, go_sem, rby, rr_eq, rt, bne_self_eq_false, beq_self_eq_true, r1, r2, r3, r4, r5, lU, lG, tG, hsn, rep_zero, rep4c, hfl, hfl1]
            refine LoadS.rptr ?_
            simp (disch := omega) only [Try.ntmps3, Try.results3, go_sem, rby, rr_eq, rt, bne_self_eq_false, beq_self_eq_true, r1, r2, r3, r4, r5, lU, lG, tG, hsn, rep_zero, rep4c, hfl, hfl1]
            refine LoadS.rptr ?_
            simp (disch := omega) only [Try.ntmps3, Try.results3, go_sem, rby, rr_eq, rt, bne_self_eq_false, beq_self_eq_true, r1, r2, r3, r4, r5, lU, lG, tG, hsn, rep_zero, rep4c, hfl, hfl1]
            refine LoadS.rptr ?_
            simp (disch := omega) only [Try.ntmps3, Try.results3, go_sem, rby, rr_eq, rt, bne_self_eq_false, beq_self_eq_true, r1, r2, r3, r4, r5, lU, lG, tG, hsn, rep_zero, rep4c, hfl, hfl1]
            exact ⟨(nb + 1 + 1 + 1, nb + 1 + 1 + 1 + 1), Wk.ofH (by simp only [go_sem, ↓List.forall_mem_cons, List.not_mem_nil, false_implies, implies_true, and_true, true_and, and_self, ri_eq, Int.natCast_add, Int.cast_ofNat_Int, rr_eq, rt]; try simp) (by simp [hp, hmap]) (by simp [hp])⟩
          · simp (disch := omega) only [Try.ntmps3, Try.results3, go_sem, rby, rr_eq, rt, bne_self_eq_false, beq_self_eq_true, r1, r2, r3, r4, r5, lU, lG, tG, hsn, rep_zero, rep4c, hfl, hfl1]
            refine LoadS.rptr ?_
            simp (disch := omega) only [Try.ntmps3, Try.results3, go_sem, rby, rr_eq, rt, bne_self_eq_false, beq_self_eq_true, r1, r2, r3, r4, r5, lU, lG, tG, hsn, rep_zero, rep4c, hfl, hfl1]
            refine LoadS.rptr ?_
            simp (disch := omega) only [Try.ntmps3, Try.results3, go_sem, rby, rr_eq, rt, bne_self_eq_false, beq_self_eq_true, r1, r2, r3, r4, r5, lU, lG, tG, hsn, rep_zero, rep4c, hfl, hfl1]
            refine LoadS.rptr ?_
            simp (disch := omega) only [Try.ntmps3, Try.results3, go_sem, rby, rr_eq, rt, bne_self_eq_false, beq_self_eq_true, r1, r2, r3, r4, r5, lU, lG, tG, hsn, rep_zero, rep4c, hfl, hfl1]
            exact ⟨(nb + 1 + 1 + 1, nb + 1 + 1 + 1 + 1), Wk.ofH (by simp only [go_sem, ↓List.forall_mem_cons, List.not_mem_nil, false_implies, implies_true, and_true, true_and, and_self, ri_eq, Int.natCast_add, Int.cast_ofNat_Int, rr_eq, rt]; try simp) (by simp [hp, hmap]) (by simp [hp])⟩
      rintro ⟨tb, nb2⟩ _
      simp only
      generalize G ++ [(a, b, c, (1 : Int))] = V at *
      refine SW_of_vc Try.mixed _ _ _ (by kernel_rfl) ?_
      simp (disch := omega) only [Try.ntmps3, Try.results3, go_sem, rby, rr_eq, rt, bne_self_eq_false, beq_self_eq_true, r1, r2, r3, r4, r5, lU, lG]
      refine wb.callDV 0 (viewL_cons_of (view_row) (viewL_cons_of (view_int) (viewL_cons_of (view_int) (viewL_cons_of (view_int) viewL_nil_of)))) ?_
      simp (disch := omega) only [Try.ntmps3, Try.results3, go_sem, rby, rr_eq, rt, bne_self_eq_false, beq_self_eq_true, r1, r2, r3, r4, r5, lU, lG]
      refine wm.callDV 1 (viewL_cons_of view_row (viewL_cons_of (view_ownT (e2 := false) (by simp [hp, hmap]) hl1.symm) viewL_nil_of)) ?_
      simp (disch := omega) only [Try.ntmps3, Try.results3, go_sem, rby, rr_eq, rt, bne_self_eq_false, beq_self_eq_true, r1, r2, r3, r4, r5, lU, lG]
      exact ⟨nb2, Wk.ofH (by simp only [go_sem, ↓List.forall_mem_cons, List.not_mem_nil, false_implies, implies_true, and_true, true_and, and_self, ri_eq, Int.natCast_add, Int.cast_ofNat_Int, rr_eq, rt]; try simp) (by simp) (by simp [hp])⟩
    intro nb2 _
    refine SW_of_vc Try.mixed _ _ _ (by kernel_rfl) ?_
    simp (disch := omega) only [Try.ntmps3, Try.results3, go_sem, rby, rr_eq, rt, bne_self_eq_false, beq_self_eq_true]
    exact ⟨(i + 1, nb2), by show i + 1 ≤ U.length; omega, by show U.length - (i + 1) < U.length - i; omega, Wk.of (by simp only [go_sem, ↓List.forall_mem_cons, List.not_mem_nil, false_implies, implies_true, and_true, true_and, and_self, ri_eq, Int.natCast_add, Int.cast_ofNat_Int, rr_eq, rt]; try simp) rfl⟩
  intro nb _
  have w6 := Try.implPack_ok M G hM hR (by omega)
  have w7 := Try.implBound_ok M G hM hR (by omega)
  have w8 := Try.specBestCost_ok (C := []) hM hR (by simp)
  rw [isPk_t hpk] at w6
  generalize boundOf M G = u at *
  generalize bCost M [] = v at *
  refine SW_of_vc Try.mixed _ _ _ (by kernel_rfl) ?_
  simp (disch := omega) only [Try.ntmps3, Try.results3, go_sem, rby, rr_eq, rt, bne_self_eq_false, beq_self_eq_true]
  refine w6.callV 0 (viewL_cons_of (view_row) (viewL_cons_of (view_row) viewL_nil_of)) ?_
  simp (disch := omega) only [Try.ntmps3, Try.results3, go_sem, rby, rr_eq, rt, bne_self_eq_false, beq_self_eq_true]
  refine w7.callV 0 (viewL_cons_of (view_row) (viewL_cons_of (view_row) viewL_nil_of)) ?_
  simp (disch := omega) only [Try.ntmps3, Try.results3, go_sem, rby, rr_eq, rt, bne_self_eq_false, beq_self_eq_true]
  refine w8.callV 1 (viewL_cons_of view_row (viewL_cons_of (view_ownC (C := []) (e2 := false) (by simp [hp, hmap, rep_zero, cons]) rfl) viewL_nil_of)) ?_
  simp (disch := omega) only [Try.ntmps3, Try.results3, go_sem, rby, rr_eq, rt, bne_self_eq_false, beq_self_eq_true]
  exact Fin.val rfl
end Go.Sh

/-
  From the values that came in to the shadow's: bytes.
-/
namespace Go.Sh
set_option linter.unusedSimpArgs false
set_option linter.unusedVariables false
open Go Go.RowKit
open Go.ChangeShapes Go.WideShapes

theorem crel_bys {O : Nat → Prop} {w : World} : ∀ (L : List Int) (x : Addr), (L ≠ [] → ¬ O x.block) → (∀ i, i < L.length → w.cell? (x.add i) = some (.int .u8 (L.getD i 0))) → CRel O w (bys L) x
  | [], x, _, _ => by simp only [bys, List.map_nil, CRel]
  | n :: L, x, hO, h => by
    have h0 := h 0 (by simp)
    rw [Addr.add_zero'] at h0
    have hs : x.spot = none := World.cell?_spot h0
    have e : bys (n :: L) = .val (.int .u8 n) :: bys L := rfl
    rw [e]
    simp only [CRel]
    refine ⟨hs, hO (by simp), ⟨_, h0, by simp [VRel]⟩, crel_bys L ⟨x.block, x.off + 1, none⟩ (fun _ => hO (by simp)) (fun i hi => ?_)⟩
    have := h (i + 1) (by simpa using hi)
    have e2 : (⟨x.block, x.off + 1, none⟩ : Addr).add i = x.add (i + 1) := by
      rw [Addr.add_lit, Addr.add_succ']
      simp [Nat.add_assoc, Nat.add_comm 1 i]
    rw [e2, this]
    simp
theorem isRow_bys {w : World} {a : Option Addr} {len cap : Nat} {zs : List Int} (h : IsRow .u8 w a len cap zs) : VRel (fun _ => False) w noj (rby (zs.take len)) (.slice a len cap) := by
  rcases h with ⟨rfl, rfl, rfl, rfl⟩ | ⟨x, rfl, h1, h2, h3, h4, h5⟩
  · simp only [rby, VRel]
    exact ⟨none, 0, rfl, Nat.le_refl _, by simp, .inl (by simp [bys])⟩
  · have hl : (zs.take len).length = len := by simp; omega
    simp only [rby, VRel]
    refine ⟨some x, cap, by rw [hl], by omega, by simp, .inr ⟨x, rfl, crel_bys _ x (fun _ h => h) (fun i hi => ?_)⟩⟩
    have hi' : i < len := by rw [hl] at hi; exact hi
    rw [h4 i (by omega)]
    congr 2
    simp [List.getD, hi']
theorem cell_bys {Hh : Type} {enc : TypeId × Value → Hh} {P : Program} {w : World} {held : Bool} {t e : TypeId} {fuel : Nat} {v : Value} {x : DataW Hh × List MemPlace} (ht : P.underlying t = some (.slice e)) (he : P.underlying e = some (.int .u8)) (hc : P.cellsOf e = 1)
    (h : DataW.trod enc P w 0 (fun _ => true) held fuel t [v] = some x) : ∃ L : List Int, VRel (fun _ => False) w noj (rby L) v ∧ L.length ≤ maxLen := by
  rcases open_ints ht he hc h with ⟨hcs, _⟩ | ⟨a, l, c, zs, hcs, _, hl, hm, hz, _, hcell, hwz⟩
  · simp at hcs
    subst hcs
    exact ⟨[], isRow_bys (zs := []) (.inl ⟨rfl, rfl, rfl, rfl⟩), by simp⟩
  · simp at hcs
    subst hcs
    exact ⟨zs.take l, isRow_bys (.inr ⟨_, rfl, hl, hm, by simpa using hz, hcell, hwz⟩), by simp; omega⟩
end Go.Sh
