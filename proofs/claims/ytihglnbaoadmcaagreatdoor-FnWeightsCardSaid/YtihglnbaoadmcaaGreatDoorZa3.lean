/-
  Texts put together: ShN, ShO. What each proves stands at its own head, with its conditions.
-/
import Derived.Test.YtihglnbaoadmcaaGreatDoorZa2

set_option linter.unusedSimpArgs false
set_option linter.unusedVariables false
/-
  Regions that draw their order, and hold calls that write or make memory: whatever writes waits for whatever touches memory ahead of it.
-/
namespace Go.Sh
open Go Go.RowKit
variable {P : Program}

def leg (P : Program) (ops : Array Oper) (o : Oper) (σ : Slots) (H : Heap) (Q : SV → Heap → Prop) : Prop :=
  (∃ r H', Q r H') ∧ ((gst ops o σ = some true ∧ match userCall o.op with
    | some c => wpCall P (sval σ) H c Q
    | none => ∃ r H', sop P H (sval σ) o.op = some (r, H') ∧ ∀ r1 H1, Q r1 H1 ↔ r1 = r ∧ H1 = H') ∨ (gst ops o σ = some false ∧ ∀ r1 H1, Q r1 H1 ↔ r1 = .tup [] ∧ H1 = H))
def stepN (P : Program) (n : Nat) (ops : Array Oper) (o : Oper) (s : St) (K : St → Prop) : Prop :=
  dstOk n o.dst ∧ ∃ Q, leg P ops o s.σ s.H Q ∧ ∀ r H', Q r H' → K ⟨updO s.σ o.dst r, H'⟩
def opsI (P : Program) (n : Nat) (ops : Array Oper) : List Nat → St → (St → Prop) → Prop
  | [], s, K => K s
  | i :: is, s, K => ∃ o, ops[i]? = some o ∧ stepN P n ops o s (fun s' => opsI P n ops is s' K)

theorem stepN_mono {n : Nat} {ops : Array Oper} {o : Oper} {s : St} {K K' : St → Prop} (h : stepN P n ops o s K) (hk : ∀ s, K s → K' s) : stepN P n ops o s K' := by
  obtain ⟨hd, Q, hl, h⟩ := h
  exact ⟨hd, Q, hl, fun r H' hq => hk _ (h r H' hq)⟩

theorem leg_congr {ops : Array Oper} {o : Oper} {σ σ' : Slots} {H : Heap} {Q : SV → Heap → Prop} (hop : ∀ x ∈ o.op.operands, sval σ x = sval σ' x) (hg : gst ops o σ = gst ops o σ') (h : leg P ops o σ H Q) : leg P ops o σ' H Q := by
  refine ⟨h.1, ?_⟩
  rcases h.2 with ⟨g, h⟩ | ⟨g, h⟩
  · refine .inl ⟨hg ▸ g, ?_⟩
    split at h
    · rename_i c hc
      rw [userCall_operands hc] at hop
      rw [← wpCall_congr hop]; exact h
    · obtain ⟨r, H', h1, h2⟩ := h
      exact ⟨r, H', by rw [← sop_congr hop]; exact h1, h2⟩
  · exact .inr ⟨hg ▸ g, h⟩

def lv (P : Program) (ops : Array Oper) (o : Oper) (σ : Slots) : Option SV :=
  match gst ops o σ with
  | some true => (sop P Heap.empty (sval σ) o.op).map (·.1)
  | some false => some (.tup [])
  | none => none
theorem lv_congr {ops : Array Oper} {o : Oper} {σ σ' : Slots} (hop : ∀ x ∈ o.op.operands, sval σ x = sval σ' x) (hg : gst ops o σ = gst ops o σ') : lv P ops o σ = lv P ops o σ' := by
  unfold lv
  rw [hg, sop_congr hop]
theorem leg_light {ops : Array Oper} {o : Oper} {σ : Slots} {H : Heap} {Q : SV → Heap → Prop} (hc : cls o.op = 0) (h : leg P ops o σ H Q) :
    ∃ r, lv P ops o σ = some r ∧ (∀ r1 H1, Q r1 H1 ↔ r1 = r ∧ H1 = H) ∧ ∀ H2, leg P ops o σ H2 (fun r1 H1 => r1 = r ∧ H1 = H2) := by
  rcases h.2 with ⟨g, h⟩ | ⟨g, h⟩
  · rw [cls0_user hc] at h
    obtain ⟨r, H', h1, h2⟩ := h
    obtain ⟨rfl, h3⟩ := cls0_sop hc h1
    refine ⟨r, by simp [lv, g, h3 Heap.empty], h2, fun H2 => ⟨⟨r, H2, rfl, rfl⟩, .inl ⟨g, ?_⟩⟩⟩
    rw [cls0_user hc]
    exact ⟨r, H2, h3 H2, fun _ _ => Iff.rfl⟩
  · exact ⟨.tup [], by simp [lv, g], h, fun H2 => ⟨⟨.tup [], H2, rfl, rfl⟩, .inr ⟨g, fun _ _ => Iff.rfl⟩⟩⟩
theorem leg_read {ops : Array Oper} {o : Oper} {σ : Slots} {H : Heap} {Q : SV → Heap → Prop} (hc : cls o.op = 1) (hu : userCall o.op = none) (h : leg P ops o σ H Q) : ∃ r, ∀ r1 H1, Q r1 H1 ↔ r1 = r ∧ H1 = H := by
  rcases h.2 with ⟨g, h⟩ | ⟨g, h⟩
  · rw [hu] at h
    obtain ⟨r, H', h1, h2⟩ := h
    obtain rfl := cls1_sop hc h1
    exact ⟨r, h2⟩
  · exact ⟨_, h⟩

def pairOkN (ops : Array Oper) (x y : Oper) : Bool := x.apart ops y && (cls x.op == 0 || cls y.op == 0 || (cls x.op == 1 && cls y.op == 1 && (userCall x.op).isNone && (userCall y.op).isNone))

theorem stepN_swap {n : Nat} {ops : Array Oper} {x y : Oper} {s : St} {K : St → Prop} (hp : pairOkN ops x y = true) (h : stepN P n ops x s (fun s1 => stepN P n ops y s1 K)) : stepN P n ops y s (fun s2 => stepN P n ops x s2 K) := by
  simp only [pairOkN, Bool.and_eq_true, Bool.or_eq_true, beq_iff_eq] at hp
  obtain ⟨hap, hcl⟩ := hp
  obtain ⟨a1, a2, a3⟩ := Oper.apart_spec hap
  obtain ⟨dx, Qx, lx, kx⟩ := h
  have oy : ∀ r, ∀ z ∈ y.op.operands, sval (updO s.σ x.dst r) z = sval s.σ z := fun r z hz => sval_updO (fun t ht => apart_op (a1 t ht) hz)
  have ox : ∀ r, ∀ z ∈ x.op.operands, sval (updO s.σ y.dst r) z = sval s.σ z := fun r z hz => sval_updO (fun t ht => apart_op (a3 t ht) hz)
  have gy : ∀ r, gst ops y (updO s.σ x.dst r) = gst ops y s.σ := fun r => apart_gst a1
  have gx : ∀ r, gst ops x (updO s.σ y.dst r) = gst ops x s.σ := fun r => apart_gst a3
  have comm : ∀ rx ry, updO (updO s.σ x.dst rx) y.dst ry = updO (updO s.σ y.dst ry) x.dst rx := fun rx ry => updO_comm a2
  obtain ⟨r1, H1, hq1⟩ := lx.1
  obtain ⟨dy, Qy, ly, ky⟩ := kx r1 H1 hq1
  rcases hcl with (hc | hc) | ⟨⟨⟨hc1, hc2⟩, hu1⟩, hu2⟩
  · obtain ⟨rx, _, hQ, hany⟩ := leg_light hc lx
    obtain ⟨rfl, rfl⟩ := (hQ _ _).1 hq1
    refine ⟨dy, Qy, leg_congr (oy _) (gy _) ly, fun ry Hy hq => ⟨dx, _, leg_congr (fun z hz => (ox ry z hz).symm) (gx ry).symm (hany Hy), ?_⟩⟩
    rintro _ _ ⟨rfl, rfl⟩
    have := ky ry _ hq
    simp only at this ⊢
    rwa [comm] at this
  · obtain ⟨ry, hlv, hQ, hany⟩ := leg_light hc ly
    refine ⟨dy, _, leg_congr (oy _) (gy _) (hany s.H), fun ry2 H2 hq2 => ?_⟩
    rw [hq2.1, hq2.2]
    refine ⟨dx, Qx, leg_congr (fun z hz => (ox _ z hz).symm) (gx _).symm lx, fun rx Hx hq => ?_⟩
    obtain ⟨_, Qy', ly', ky'⟩ := kx rx Hx hq
    obtain ⟨ry', hlv', hQ', _⟩ := leg_light hc ly'
    have e : ry' = ry := by
      have e1 : lv P ops y (updO s.σ x.dst rx) = lv P ops y s.σ := lv_congr (oy rx) (gy rx)
      have e2 : lv P ops y (updO s.σ x.dst r1) = lv P ops y s.σ := lv_congr (oy r1) (gy r1)
      have : some ry' = some ry := by rw [← hlv', ← hlv]; exact e1.trans e2.symm
      simpa using this
    subst e
    have := ky' ry' Hx ((hQ' _ _).2 ⟨rfl, rfl⟩)
    simp only at this ⊢
    rwa [comm] at this
  · have hu1 : userCall x.op = none := by simpa using hu1
    have hu2 : userCall y.op = none := by simpa using hu2
    obtain ⟨rx, hQ⟩ := leg_read hc1 hu1 lx
    obtain ⟨rfl, rfl⟩ := (hQ _ _).1 hq1
    obtain ⟨ry, hQy⟩ := leg_read hc2 hu2 ly
    refine ⟨dy, Qy, leg_congr (oy _) (gy _) ly, fun ry' Hy hq => ?_⟩
    obtain ⟨rfl, rfl⟩ := (hQy _ _).1 hq
    refine ⟨dx, Qx, leg_congr (fun z hz => (ox _ z hz).symm) (gx _).symm lx, fun rx' Hx hq' => ?_⟩
    obtain ⟨rfl, rfl⟩ := (hQ _ _).1 hq'
    have := ky _ _ hq
    simp only at this ⊢
    rwa [comm] at this

theorem opsI_front {n : Nat} {ops : Array Oper} {i : Nat} {y : Oper} (hy : ops[i]? = some y) {K : St → Prop} : ∀ (l1 : List Nat) (l2 : List Nat) (s : St), (∀ k ∈ l1, ∀ x, ops[k]? = some x → pairOkN ops x y = true) →
    opsI P n ops (l1 ++ i :: l2) s K → opsI P n ops (i :: (l1 ++ l2)) s K
  | [], l2, s, _, h => h
  | k :: l1, l2, s, hp, h => by
    simp only [List.cons_append, opsI] at h
    obtain ⟨x, hx, h1⟩ := h
    have h2 : stepN P n ops x s (fun s1 => stepN P n ops y s1 (fun s2 => opsI P n ops (l1 ++ l2) s2 K)) := stepN_mono h1 fun s1 g => by
      obtain ⟨y', hy', g⟩ := opsI_front hy l1 l2 s1 (fun k' hk' => hp k' (by simp [hk'])) g
      rw [hy] at hy'
      simp at hy'; subst hy'
      exact g
    refine ⟨y, hy, stepN_mono (stepN_swap (hp k (by simp) x hx) h2) fun s2 g => ?_⟩
    simp only [List.cons_append, opsI]
    exact ⟨x, hx, g⟩

theorem stepN_real {n : Nat} {ops : Array Oper} {i : Nat} {o : Oper} {s : St} {j : JMap} {a : Act} {w : World} {K : Act → World → Prop} {Q : Exit → Act → World → Prop} {A : St → Prop} (ho : ops[i]? = some o) (h : stepN P n ops o s A) (ha : SAll n j s a w)
    (hk : ∀ j' s' a' w', SAll n j' s' a' w' → Nx j s.H w j' s'.H w' → A s' → K a' w') : wpOp P ops Q i K a w := by
  obtain ⟨hd, R, hl, h⟩ := h
  simp only [wpOp, ho]
  have wanted : ∀ b, gst ops o s.σ = some b → Region.wanted o (yielded ops a.tmps) = b := by
    intro b hb
    unfold gst at hb
    split at hb
    · rename_i hg
      simp at hb; subst hb
      simp [Region.wanted, hg]
    · rename_i g want hg
      split at hb
      · rename_i d hd'
        exact gd_of ha hg hd' hb
      · simp at hb
  rcases hl.2 with ⟨g, hop⟩ | ⟨g, hop⟩
  · rw [if_pos (wanted true g)]
    left
    have hW : opW P n false o s A := by
      refine ⟨hd, ?_⟩
      split
      · rename_i c hc
        rw [hc] at hop
        exact hop.mono (fun r' H' hq => h r' H' hq)
      · rename_i hc
        rw [hc] at hop
        obtain ⟨r, H', h1, h2⟩ := hop
        rw [h1]
        exact h r H' ((h2 _ _).2 ⟨rfl, rfl⟩)
    exact opW_sound hW ha hk
  · rw [if_neg (by rw [wanted false g]; simp)]
    have := h _ _ ((hop _ _).2 ⟨rfl, rfl⟩)
    exact hk j ⟨updO s.σ o.dst (.tup []), s.H⟩ _ w (ha.put hd ha.rel (Nx.refl _ _ _) VRel.undef) (Nx.refl _ _ _) this

def drawOkN (ops : Array Oper) : Bool :=
  (List.range ops.size).all fun i => match ops[i]? with
    | some y => (y.after.all fun e => !Region.binds .any e || decide (e.on < i)) && (List.range i).all fun k => match ops[k]? with
      | some x => waits y k || pairOkN ops x y || waitsT ops 6 y k
      | none => true
    | none => true

theorem wpAny_of_opsI {n : Nat} {ops : Array Oper} {Q : Exit → Act → World → Prop} {K : St → Prop} (hok : drawOkN ops = true) : ∀ (fuel : Nat) (listed : Array Bool) (s : St) (j : JMap) (a : Act) (w : World), listed.size = ops.size → ClosedL ops listed →
    (left ops.size listed).length ≤ fuel → opsI P n ops (left ops.size listed) s K → SAll n j s a w → (∀ j' s' a' w', SAll n j' s' a' w' → Nx j s.H w j' s'.H w' → K s' → Q .normal a' w') → wpAny P .any ops Q fuel listed a w := by
  have hok' : ∀ i y, ops[i]? = some y → (∀ e ∈ y.after, Region.binds .any e = true → e.on < i) ∧ ∀ k, k < i → ∀ x, ops[k]? = some x → waitsT ops 6 y k = true ∨ pairOkN ops x y = true := by
    intro i y hy
    have hi : i < ops.size := by
      rcases Nat.lt_or_ge i ops.size with h | h
      · exact h
      · rw [Array.getElem?_eq_none h] at hy; simp at hy
    have := List.all_eq_true.1 hok i (by simpa using hi)
    rw [hy] at this
    simp only [Bool.and_eq_true] at this
    refine ⟨fun e he hb => ?_, fun k hk x hx => ?_⟩
    · have h1 := Array.all_eq_true.1 this.1
      obtain ⟨m, hm, rfl⟩ := Array.mem_iff_getElem.1 he
      have := h1 m hm
      simpa [hb] using this
    · have := List.all_eq_true.1 this.2 k (by simpa using hk)
      rw [hx] at this
      simp only [Bool.or_eq_true] at this
      rcases this with (h | h) | h
      · exact .inl (by simp only [waitsT, h, Bool.true_or])
      · exact .inr h
      · exact .inl h
  have ready_nil : ∀ listed : Array Bool, listed.size = ops.size → Region.ready .any ops listed = [] → left ops.size listed = [] := by
    intro listed hs hr
    cases hl : left ops.size listed with
    | nil => rfl
    | cons i rest =>
      exfalso
      have hmem : i ∈ left ops.size listed := by rw [hl]; simp
      have hi := List.mem_filter.1 hmem
      have hlt : i < ops.size := by simpa using hi.1
      have hsmall : ∀ k, k < i → listed.getD k true = true := by
        intro k hk
        cases hk' : listed.getD k true with
        | true => rfl
        | false =>
          exfalso
          have hkm : k ∈ left ops.size listed := List.mem_filter.2 ⟨by simp; omega, by simp [hk']⟩
          have hsorted : (left ops.size listed).Pairwise (· < ·) := (List.pairwise_lt_range).filter _
          rw [hl] at hsorted hkm
          rcases List.mem_cons.1 hkm with rfl | h
          · omega
          · have := (List.pairwise_cons.1 hsorted).1 k h
            omega
      have : i ∈ Region.ready .any ops listed := by
        refine List.mem_filter.2 ⟨by simpa using hlt, ?_⟩
        rw [Array.getElem?_eq_getElem hlt]
        simp only [Option.map_some, Option.getD_some, Bool.and_eq_true]
        refine ⟨hi.2, Array.all_eq_true.2 (fun m hm => ?_)⟩
        cases hb : Region.binds .any (ops[i]).after[m] with
        | false => simp
        | true =>
          have h1 := (hok' i ops[i] (Array.getElem?_eq_getElem hlt)).1 _ (Array.getElem_mem hm) hb
          have h2 := hsmall _ h1
          have h3 : listed.getD ((ops[i]).after[m]).on false = true := by
            rw [Array.getD_eq_getD_getElem?, Array.getElem?_eq_getElem (by omega)] at h2 ⊢
            simpa using h2
          simp [h3]
      rw [hr] at this
      simp at this
  intro fuel
  induction fuel with
  | zero =>
    intro listed s j a w hs hcl hf hrun ha hq
    have hl : left ops.size listed = [] := by simpa using hf
    rw [hl] at hrun
    simp only [opsI] at hrun
    refine ⟨?_, hq j s a w ha (Nx.refl _ _ _) hrun⟩
    cases hr : Region.ready .any ops listed with
    | nil => rfl
    | cons i rest =>
      exfalso
      have hm : i ∈ Region.ready .any ops listed := by rw [hr]; simp
      have hm := List.mem_filter.1 hm
      simp only [Bool.and_eq_true] at hm
      have : i ∈ left ops.size listed := List.mem_filter.2 ⟨hm.1, hm.2.1⟩
      rw [hl] at this; simp at this
  | succ fuel ih =>
    intro listed s j a w hs hcl hf hrun ha hq
    refine ⟨fun hr => ?_, fun i hi => ?_⟩
    · rw [ready_nil listed hs hr] at hrun
      simp only [opsI] at hrun
      exact hq j s a w ha (Nx.refl _ _ _) hrun
    · have hm := List.mem_filter.1 hi
      simp only [Bool.and_eq_true] at hm
      have hlt : i < ops.size := by simpa using hm.1
      have hno : listed.getD i true = false := by simpa using hm.2.1
      have hy : ops[i]? = some ops[i] := Array.getElem?_eq_getElem hlt
      have hdir : ∀ e ∈ (ops[i]).after, Region.binds .any e = true → listed.getD e.on false = true := by
        intro e he hb
        have hall := hm.2.2
        rw [hy] at hall
        simp only [Option.map_some, Option.getD_some] at hall
        obtain ⟨m, hm', rfl⟩ := Array.mem_iff_getElem.1 he
        have := Array.all_eq_true.1 hall m hm'
        rw [hb] at this
        simpa only [Bool.not_true, Bool.false_or] using this
      have hset : ∀ m, listed.getD m false = true → (listed.setIfInBounds i true).getD m false = true := by
        intro m h
        by_cases hmi : m = i
        · subst hmi
          simp [Array.getD_eq_getD_getElem?, hs, hlt]
        · rw [Array.getD_eq_getD_getElem?] at h ⊢
          rw [Array.getElem?_setIfInBounds_ne (Ne.symm hmi)]
          exact h
      have hcl' : ClosedL ops (listed.setIfInBounds i true) := by
        intro m y hmy hlm e he hb
        by_cases hmi : m = i
        · subst hmi
          rw [hy] at hmy
          simp at hmy
          subst hmy
          exact hset _ (hdir e he hb)
        · refine hset _ (hcl m y hmy ?_ e he hb)
          rw [Array.getD_eq_getD_getElem?] at hlm ⊢
          rwa [Array.getElem?_setIfInBounds_ne (Ne.symm hmi)] at hlm
      obtain ⟨l1, l2, e1, e2, e3⟩ := left_split hs hlt hno
      rw [e1] at hrun
      have hfront := opsI_front hy l1 l2 s (fun k hk x hx => by
        obtain ⟨hk1, hk2⟩ := e3 k hk
        refine ((hok' i _ hy).2 k hk1 x hx).resolve_left (fun hw => ?_)
        have := waitsT_listed hcl 6 _ hdir hw
        rw [Array.getD_eq_getD_getElem?, Array.getElem?_eq_getElem (by omega)] at this hk2
        simp at this hk2
        rw [this] at hk2; simp at hk2) hrun
      simp only [opsI] at hfront
      obtain ⟨y, hy', hstep⟩ := hfront
      refine stepN_real hy' hstep ha (fun j' s1 a' w' h1 h2 hrest => ?_)
      refine ih (listed.setIfInBounds i true) s1 j' a' w' (by simpa using hs) hcl' ?_ (by rw [e2]; exact hrest) h1 (fun j'' s'' a'' w'' g1 g2 g3 => hq j'' s'' a'' w'' g1 (h2.trans g2) g3)
      rw [e2]
      rw [e1] at hf
      simp at hf ⊢
      omega

def callN (P : Program) (x : SV) (args : List SV) (H : Heap) [K : KS] : Prop :=
  match x with
  | .clos (.func f) first captured => ∃ Q : SV → Heap → Prop, (∃ r H', Q r H') ∧ CallS P f (first ++ args ++ captured) H Q ∧ ∀ r H', Q r H' → K.k r H'
  | _ => False
def CallN (P : Program) (f : FuncId) (args : List SV) (H : Heap) [K : KS] : Prop := ∃ Q : SV → Heap → Prop, (∃ r H', Q r H') ∧ CallS P f args H Q ∧ ∀ r H', Q r H' → K.k r H'
theorem callN_f (f : FuncId) (a c args : List SV) (H : Heap) (K : SV → Heap → Prop) : @callN P (.clos (.func f) a c) args H ⟨K⟩ = @CallN P f (a ++ args ++ c) H ⟨K⟩ := (rfl)
def opN (P : Program) (n : Nat) (o : Oper) (s : St) (K : St → Prop) : Prop :=
  match o.op with
  | .call ⟨.value x, args, _⟩ => @needW (dstOk n o.dst) ⟨@callN P (sval s.σ x) (args.toList.map (sval s.σ)) s.H ⟨fun r H => K ⟨updO s.σ o.dst r, H⟩⟩⟩
  | _ => opW P n false o s K
def opsN (P : Program) (n : Nat) (ops : Array Oper) : List Oper → St → (St → Prop) → Prop
  | [], s, K => K s
  | o :: rest, s, K => match o.guard with
    | none => opN P n o s (fun s' => opsN P n ops rest s' K)
    | some (g, want) => match (ops[g]?).bind (·.dst) with
      | some d => match gd (s.σ d) want with
        | some true => opN P n o s (fun s' => opsN P n ops rest s' K)
        | some false => dstOk n o.dst ∧ opsN P n ops rest ⟨updO s.σ o.dst (.tup []), s.H⟩ K
        | none => False
      | none => False

theorem opN_leg {n : Nat} {ops : Array Oper} {o : Oper} {s : St} {K : St → Prop} (hg : gst ops o s.σ = some true) (h : opN P n o s K) : stepN P n ops o s K := by
  obtain ⟨dst, op, type, pos, after, guard⟩ := o
  by_cases hv : ∃ x args ats, op = .call ⟨.value x, args, ats⟩
  · obtain ⟨x, args, ats, rfl⟩ := hv
    obtain ⟨hd, h⟩ := h
    refine ⟨hd, ?_⟩
    simp only [callN] at h
    split at h
    · rename_i f first captured hx
      obtain ⟨Q, h1, h2, h3⟩ := h
      refine ⟨Q, ⟨h1, .inl ⟨hg, ?_⟩⟩, h3⟩
      simp only [userCall, wpCall, hx]
      exact h2
    · exact h.elim
  · have hW : opW P n false ⟨dst, op, type, pos, after, guard⟩ s K := by
      unfold opN at h
      split at h
      · rename_i x args ats hop
        exact absurd ⟨x, args, ats, hop⟩ hv
      · exact h
    obtain ⟨hd, hW⟩ := hW
    refine ⟨hd, ?_⟩
    split at hW
    · rename_i c hc
      cases op <;> simp only [userCall] at hc <;> try (simp at hc; done)
      rename_i c'
      obtain ⟨callee, args, argTypes⟩ := c'
      cases callee with
      | builtin b => simp at hc
      | invoke f m => simp at hc; subst hc; simp [wpCall] at hW
      | value x => exact absurd ⟨x, args, argTypes, rfl⟩ hv
    · rename_i hc
      split at hW
      · rename_i r H' hs
        refine ⟨fun r1 H1 => r1 = r ∧ H1 = H', ⟨⟨r, H', rfl, rfl⟩, .inl ⟨hg, ?_⟩⟩, ?_⟩
        · simp only at hc ⊢
          rw [hc]
          exact ⟨r, H', hs, fun _ _ => Iff.rfl⟩
        · rintro _ _ ⟨rfl, rfl⟩; exact hW
      · exact hW.elim

theorem opsI_of_opsN {n : Nat} {ops : Array Oper} {K : St → Prop} : ∀ (rest : List Oper) (i : Nat) (_ : ∀ k, rest[k]? = ops[i + k]?) (s : St), opsN P n ops rest s K → opsI P n ops (List.range' i rest.length) s K
  | [], i, _, s, h => by simpa only [List.length_nil, List.range'_zero, opsI, opsN] using h
  | o :: rest, i, hops, s, h => by
    have ho : ops[i]? = some o := by simpa using (hops 0).symm
    have hrest : ∀ k, rest[k]? = ops[i + 1 + k]? := fun k => by
      have := hops (k + 1)
      simpa [Nat.add_assoc, Nat.add_comm 1 k] using this
    simp only [List.length_cons, List.range'_succ, opsI]
    refine ⟨o, ho, ?_⟩
    have hk : ∀ s', opsN P n ops rest s' K → opsI P n ops (List.range' (i + 1) rest.length) s' K := fun s' h' => opsI_of_opsN rest (i + 1) hrest s' h'
    simp only [opsN] at h
    split at h
    · rename_i hg
      exact stepN_mono (opN_leg (by simp [gst, hg]) h) hk
    · rename_i g want hg
      split at h
      · rename_i d hd
        split at h
        · rename_i hb
          exact stepN_mono (opN_leg (by simp [gst, hg, hd, hb]) h) hk
        · rename_i hb
          obtain ⟨hdk, h⟩ := h
          refine ⟨hdk, fun r1 H1 => r1 = .tup [] ∧ H1 = s.H, ⟨⟨_, _, rfl, rfl⟩, .inr ⟨by simp [gst, hg, hd, hb], fun _ _ => Iff.rfl⟩⟩, ?_⟩
          rintro _ _ ⟨rfl, rfl⟩
          exact hk _ h
        · exact h.elim
      · exact h.elim

theorem SW.regionN {n : Nat} {id : Nat} {ops : Array Oper} {Q : Exit → St → Prop} {s : St} (hm : P.follows .mixedOrders = true) (hok : drawOkN ops = true) (h : opsN P n ops ops.toList s (Q .normal)) : SW P n (.region id ops true) Q s := by
  intro j a w ha
  have hrun := opsI_of_opsN ops.toList 0 (fun k => by simp) s h
  have hd : SAll n j s a w.drew := ⟨ha.rel.drew, ha.slots.nx ha.rel (Nx.drew j s.H w), ha.size, ha.defers⟩
  refine wp_region_any hm ?_
  have hleft : left ops.size (Array.replicate ops.size false) = List.range' 0 ops.toList.length := by
    unfold left
    rw [← List.range_eq_range']
    simp only [Array.length_toList]
    apply List.filter_eq_self.2
    intro k hk
    simp at hk
    simp [Array.getD_eq_getD_getElem?, hk]
  refine wpAny_of_opsI hok ops.size _ s j a w.drew (by simp) (fun m y _ h => by simp [Array.getD_eq_getD_getElem?, Array.getElem?_replicate] at h; split at h <;> simp at h) (by rw [hleft]; simp) (by rw [hleft]; exact hrun) hd (fun j' s' a' w' h1 h2 h3 => ⟨j', s', h1, (Nx.drew j s.H w).trans h2, h3⟩)

def hasD : List Nat → Nat → Bool
  | [], _ => false
  | d :: D, x => if x = d then true else hasD D x
theorem hasD_nil (x : Nat) : hasD [] x = false := rfl
theorem hasD_cons (d : Nat) (D : List Nat) (x : Nat) : hasD (d :: D) x = if x = d then true else hasD D x := rfl
attribute [go_sem] hasD_nil hasD_cons
def vc3 (P : Program) (D : List Nat) (n : Nat) : Code → (Exit → St → Prop) → St → Prop
  | .skip, Q, s => Q .normal s
  | .label _, Q, s => Q .normal s
  | .region id ops draw, Q, s => if draw && hasD D id then opsN P n ops ops.toList s (Q .normal) else opsW P n draw ops ops.toList s (Q .normal)
  | .seq a b, Q, s => vc3 P D n a (seqQ (fun s' => vc3 P D n b Q s') Q) s
  | .cond c a b, Q, s => match sval s.σ c with
    | .val (.bool t) => (t = true → vc3 P D n a Q s) ∧ (t = false → vc3 P D n b Q s)
    | _ => False
  | .block id c, Q, s => vc3 P D n c (blockQ id Q) s
  | .loop c, Q, s => SW P n (.loop c) Q s
  | .exit id, Q, s => Q (.exit id) s
  | .ret, Q, s => Q .ret s
  | _, _, _ => False
section
variable (D : List Nat)
theorem vc3_skip (n : Nat) (Q : Exit → St → Prop) (s : St) : vc3 P D n .skip Q s = Q .normal s := (rfl)
theorem vc3_label (n l : Nat) (Q : Exit → St → Prop) (s : St) : vc3 P D n (.label l) Q s = Q .normal s := (rfl)
theorem vc3_regionF (n id : Nat) (l : List Oper) (Q : Exit → St → Prop) (s : St) : vc3 P D n (.region id l.toArray false) Q s = opsW P n false l.toArray l s (Q .normal) := (rfl)
theorem vc3_regionT (n id : Nat) (l : List Oper) (Q : Exit → St → Prop) (s : St) : vc3 P D n (.region id l.toArray true) Q s = if hasD D id = true then opsN P n l.toArray l s (Q .normal) else opsW P n true l.toArray l s (Q .normal) := by simp only [vc3, Bool.true_and]
theorem vc3_seq (n : Nat) (a b : Code) (Q : Exit → St → Prop) (s : St) : vc3 P D n (.seq a b) Q s = vc3 P D n a (seqQ (fun s' => vc3 P D n b Q s') Q) s := (rfl)
theorem vc3_cond (n : Nat) (c : Operand) (a b : Code) (Q : Exit → St → Prop) (s : St) : vc3 P D n (.cond c a b) Q s = @condW (sval s.σ c) ⟨vc3 P D n a Q s, vc3 P D n b Q s⟩ := (rfl)
theorem vc3_block (n id : Nat) (c : Code) (Q : Exit → St → Prop) (s : St) : vc3 P D n (.block id c) Q s = vc3 P D n c (blockQ id Q) s := (rfl)
theorem vc3_loop (n : Nat) (c : Code) (Q : Exit → St → Prop) (s : St) : vc3 P D n (.loop c) Q s = @LoopW P n s ⟨c, Q⟩ := (rfl)
theorem vc3_exit (n id : Nat) (Q : Exit → St → Prop) (s : St) : vc3 P D n (.exit id) Q s = Q (.exit id) s := (rfl)
theorem vc3_ret (n : Nat) (Q : Exit → St → Prop) (s : St) : vc3 P D n .ret Q s = Q .ret s := (rfl)
end
section
variable (n : Nat) (ops : Array Oper) (s : St) (K : St → Prop) (dst : Option Tmp) (ty : TypeId) (pos : String) (after : Array Edge) (gd : Option (Nat × Bool))
theorem opsN_nil : opsN P n ops [] s K = K s := (rfl)
theorem opsN_cons (op : Op) (rest : List Oper) : opsN P n ops (⟨dst, op, ty, pos, after, none⟩ :: rest) s K = opN P n ⟨dst, op, ty, pos, after, none⟩ s (fun s' => opsN P n ops rest s' K) := (rfl)
theorem opsN_guard (l : List Oper) (op : Op) (rest : List Oper) (g : Nat) (want : Bool) : opsN P n l.toArray (⟨dst, op, ty, pos, after, some (g, want)⟩ :: rest) s K =
    @guardW (slotAt s.σ (dstOf l g)) want ⟨opN P n ⟨dst, op, ty, pos, after, some (g, want)⟩ s (fun s' => opsN P n l.toArray rest s' K), @needW (dstOk n dst) ⟨opsN P n l.toArray rest ⟨updO s.σ dst (.tup []), s.H⟩ K⟩⟩ := by
  simp only [opsN, dstOf_eq, List.getElem?_toArray]
  cases hd : (l[g]?).bind (·.dst) with
  | none => rfl
  | some d =>
    show _ = @guardW (some (s.σ d)) want ⟨_, _⟩
    simp only []
    show _ = (match Sh.gd (s.σ d) want with | some true => _ | some false => _ | none => False)
    cases Sh.gd (s.σ d) want with
    | none => rfl
    | some b => cases b <;> rfl
theorem opN_call (x : Operand) (args : List Operand) (ats : Array TypeId) : opN P n ⟨dst, .call ⟨.value x, args.toArray, ats⟩, ty, pos, after, gd⟩ s K = @needW (dstOk n dst) ⟨@callN P (sval s.σ x) (args.map (sval s.σ)) s.H ⟨fun r H => K ⟨updO s.σ dst r, H⟩⟩⟩ := (rfl)
theorem opN_alloc (t : TypeId) : opN P n ⟨dst, .alloc t, ty, pos, after, gd⟩ s K = opW P n false ⟨dst, .alloc t, ty, pos, after, gd⟩ s K := (rfl)
theorem opN_box (t : TypeId) (x : Operand) : opN P n ⟨dst, .box t x, ty, pos, after, gd⟩ s K = opW P n false ⟨dst, .box t x, ty, pos, after, gd⟩ s K := (rfl)
theorem opN_move (x : Operand) : opN P n ⟨dst, .move x, ty, pos, after, gd⟩ s K = opW P n false ⟨dst, .move x, ty, pos, after, gd⟩ s K := (rfl)
theorem opN_assign (x : Operand) : opN P n ⟨dst, .assign x, ty, pos, after, gd⟩ s K = opW P n false ⟨dst, .assign x, ty, pos, after, gd⟩ s K := (rfl)
theorem opN_pick (c x y : Operand) : opN P n ⟨dst, .pick c x y, ty, pos, after, gd⟩ s K = opW P n false ⟨dst, .pick c x y, ty, pos, after, gd⟩ s K := (rfl)
theorem opN_build (t : TypeId) (ps : Array (Nat × Operand)) : opN P n ⟨dst, .build t ps, ty, pos, after, gd⟩ s K = opW P n false ⟨dst, .build t ps, ty, pos, after, gd⟩ s K := (rfl)
theorem opN_buildSlice (t : TypeId) (m : Nat) (ps : Array (Nat × Operand)) : opN P n ⟨dst, .buildSlice t m ps, ty, pos, after, gd⟩ s K = opW P n false ⟨dst, .buildSlice t m ps, ty, pos, after, gd⟩ s K := (rfl)
theorem opN_load (t : TypeId) (x : Operand) : opN P n ⟨dst, .load t x, ty, pos, after, gd⟩ s K = opW P n false ⟨dst, .load t x, ty, pos, after, gd⟩ s K := (rfl)
theorem opN_store (t : TypeId) (x y : Operand) : opN P n ⟨dst, .store t x y, ty, pos, after, gd⟩ s K = opW P n false ⟨dst, .store t x y, ty, pos, after, gd⟩ s K := (rfl)
theorem opN_nilCheck (x : Operand) : opN P n ⟨dst, .nilCheck x, ty, pos, after, gd⟩ s K = opW P n false ⟨dst, .nilCheck x, ty, pos, after, gd⟩ s K := (rfl)
theorem opN_binOp (op : BinOp) (t t2 : TypeId) (x y : Operand) : opN P n ⟨dst, .binOp op t x y t2, ty, pos, after, gd⟩ s K = opW P n false ⟨dst, .binOp op t x y t2, ty, pos, after, gd⟩ s K := (rfl)
theorem opN_unOp (op : UnOp) (t : TypeId) (x : Operand) : opN P n ⟨dst, .unOp op t x, ty, pos, after, gd⟩ s K = opW P n false ⟨dst, .unOp op t x, ty, pos, after, gd⟩ s K := (rfl)
theorem opN_convert (a b : TypeId) (x : Operand) : opN P n ⟨dst, .convert a b x, ty, pos, after, gd⟩ s K = opW P n false ⟨dst, .convert a b x, ty, pos, after, gd⟩ s K := (rfl)
theorem opN_makeInterface (t : TypeId) (x : Operand) : opN P n ⟨dst, .makeInterface t x, ty, pos, after, gd⟩ s K = opW P n false ⟨dst, .makeInterface t x, ty, pos, after, gd⟩ s K := (rfl)
theorem opN_makeFunc (fn : Fn) (f c : Array Operand) : opN P n ⟨dst, .makeFunc fn f c, ty, pos, after, gd⟩ s K = opW P n false ⟨dst, .makeFunc fn f c, ty, pos, after, gd⟩ s K := (rfl)
theorem opN_makeSlice (t : TypeId) (l c : Operand) : opN P n ⟨dst, .makeSlice t l c, ty, pos, after, gd⟩ s K = opW P n false ⟨dst, .makeSlice t l c, ty, pos, after, gd⟩ s K := (rfl)
theorem opN_slice (t : TypeId) (x : Operand) (lo hi mx : Option Operand) : opN P n ⟨dst, .slice t x lo hi mx, ty, pos, after, gd⟩ s K = opW P n false ⟨dst, .slice t x lo hi mx, ty, pos, after, gd⟩ s K := (rfl)
theorem opN_fieldAddr (t : TypeId) (x : Operand) (f : Nat) : opN P n ⟨dst, .fieldAddr t x f, ty, pos, after, gd⟩ s K = opW P n false ⟨dst, .fieldAddr t x f, ty, pos, after, gd⟩ s K := (rfl)
theorem opN_field (t : TypeId) (x : Operand) (f : Nat) : opN P n ⟨dst, .field t x f, ty, pos, after, gd⟩ s K = opW P n false ⟨dst, .field t x f, ty, pos, after, gd⟩ s K := (rfl)
theorem opN_indexAddr (t : TypeId) (x i : Operand) : opN P n ⟨dst, .indexAddr t x i, ty, pos, after, gd⟩ s K = opW P n false ⟨dst, .indexAddr t x i, ty, pos, after, gd⟩ s K := (rfl)
theorem opN_index (t : TypeId) (x i : Operand) : opN P n ⟨dst, .index t x i, ty, pos, after, gd⟩ s K = opW P n false ⟨dst, .index t x i, ty, pos, after, gd⟩ s K := (rfl)
theorem opN_extract (x : Operand) (i : Nat) : opN P n ⟨dst, .extract x i, ty, pos, after, gd⟩ s K = opW P n false ⟨dst, .extract x i, ty, pos, after, gd⟩ s K := (rfl)
theorem opN_builtin (b : Builtin) (args : Array Operand) (ats : Array TypeId) : opN P n ⟨dst, .call ⟨.builtin b, args, ats⟩, ty, pos, after, gd⟩ s K = opW P n false ⟨dst, .call ⟨.builtin b, args, ats⟩, ty, pos, after, gd⟩ s K := (rfl)
end
attribute [go_sem ↓] callN_f vc3_skip vc3_label vc3_regionF vc3_regionT vc3_seq vc3_cond vc3_block vc3_loop vc3_exit vc3_ret opsN_nil opsN_cons opsN_guard opN_call opN_alloc opN_box opN_move opN_assign opN_pick opN_build opN_buildSlice opN_load opN_store opN_nilCheck opN_binOp opN_unOp opN_convert opN_makeInterface opN_makeFunc opN_makeSlice opN_slice opN_fieldAddr opN_field opN_indexAddr opN_index opN_extract opN_builtin
theorem SW.seqI {n : Nat} {a b : Code} {Q : Exit → St → Prop} {s : St} {ι : Type} (F : ι → St) (I : ι → Prop) (h1 : SW P n a (seqQ (fun s' => ∃ y, I y ∧ Wk s' (F y)) Q) s) (h2 : ∀ y, I y → SW P n b Q (F y)) : SW P n (.seq a b) Q s :=
  SW.seq (h1.mono (fun e s' h => by
    cases e with
    | normal =>
      obtain ⟨y, hy, hk⟩ := h
      exact SW.wk hk (h2 y hy)
    | _ => exact h))
theorem SW.seqW {n : Nat} {a b : Code} {Q : Exit → St → Prop} {s : St} (s1 : St) (h1 : SW P n a (seqQ (fun s' => Wk s' s1) Q) s) (h2 : SW P n b Q s1) : SW P n (.seq a b) Q s :=
  SW.seq (h1.mono (fun e s' h => by
    cases e with
    | normal => exact SW.wk h h2
    | _ => exact h))
theorem CallS.callN {f : FuncId} {args : List SV} {H : Heap} {Q K : SV → Heap → Prop} (h : CallS P f args H Q) (hne : ∃ r H', Q r H') (k : ∀ r H', Q r H' → K r H') : @CallN P f args H ⟨K⟩ := ⟨Q, hne, h, k⟩
end Go.Sh

/-
  Regions that draw their order, further: reads of what no operation of the region changes.
-/
namespace Go.Sh
open Go Go.RowKit
variable {P : Program}

def legS (P : Program) (ops : Array Oper) (S : Heap → Prop) (d : Bool) (o : Oper) (σ : Slots) (H : Heap) (Q : SV → Heap → Prop) : Prop :=
  if d = true then (∃ r H', Q r H') ∧ ((gst ops o σ = some true ∧ ∃ r, (∀ H2, S H2 → sop P H2 (sval σ) o.op = some (r, H2)) ∧ ∀ r1 H1, Q r1 H1 ↔ r1 = r ∧ H1 = H) ∨ (gst ops o σ = some false ∧ ∀ r1 H1, Q r1 H1 ↔ r1 = .tup [] ∧ H1 = H))
  else leg P ops o σ H Q
def stepS (P : Program) (n : Nat) (ops : Array Oper) (S : Heap → Prop) (d : Bool) (o : Oper) (s : St) (K : St → Prop) : Prop :=
  dstOk n o.dst ∧ ∃ Q, legS P ops S d o s.σ s.H Q ∧ ∀ r H', Q r H' → S H' ∧ K ⟨updO s.σ o.dst r, H'⟩
def opsS (P : Program) (n : Nat) (ops : Array Oper) (S : Heap → Prop) (D : List Nat) : List Nat → St → (St → Prop) → Prop
  | [], s, K => K s
  | i :: is, s, K => ∃ o, ops[i]? = some o ∧ stepS P n ops S (hasD D i) o s (fun s' => opsS P n ops S D is s' K)

theorem stepS_mono {n : Nat} {ops : Array Oper} {S : Heap → Prop} {d : Bool} {o : Oper} {s : St} {K K' : St → Prop} (h : stepS P n ops S d o s K) (hk : ∀ s, S s.H → K s → K' s) : stepS P n ops S d o s K' := by
  obtain ⟨hd, Q, hl, h⟩ := h
  exact ⟨hd, Q, hl, fun r H' hq => ⟨(h r H' hq).1, hk _ (h r H' hq).1 (h r H' hq).2⟩⟩
theorem legS_ne {ops : Array Oper} {S : Heap → Prop} {d : Bool} {o : Oper} {σ : Slots} {H : Heap} {Q : SV → Heap → Prop} (h : legS P ops S d o σ H Q) : ∃ r H', Q r H' := by
  unfold legS at h
  split at h
  · exact h.1
  · exact h.1
theorem legS_congr {ops : Array Oper} {S : Heap → Prop} {d : Bool} {o : Oper} {σ σ' : Slots} {H : Heap} {Q : SV → Heap → Prop} (hop : ∀ x ∈ o.op.operands, sval σ x = sval σ' x) (hg : gst ops o σ = gst ops o σ') (h : legS P ops S d o σ H Q) : legS P ops S d o σ' H Q := by
  unfold legS at h ⊢
  split
  · rename_i hd
    rw [if_pos hd] at h
    refine ⟨h.1, ?_⟩
    rcases h.2 with ⟨g, r, h1, h2⟩ | ⟨g, h⟩
    · exact .inl ⟨hg ▸ g, r, fun H2 h3 => by rw [← sop_congr hop]; exact h1 H2 h3, h2⟩
    · exact .inr ⟨hg ▸ g, h⟩
  · rename_i hd
    rw [if_neg hd] at h
    exact leg_congr hop hg h
def lightS (d : Bool) (o : Oper) : Bool := d || cls o.op == 0
theorem legS_light {ops : Array Oper} {S : Heap → Prop} {d : Bool} {o : Oper} {σ : Slots} {H : Heap} {Q : SV → Heap → Prop} (hl : lightS d o = true) (h : legS P ops S d o σ H Q) :
    ∃ r, (∀ r1 H1, Q r1 H1 ↔ r1 = r ∧ H1 = H) ∧ ∀ H2, legS P ops S d o σ H2 (fun r1 H1 => r1 = r ∧ H1 = H2) := by
  cases d with
  | true =>
    simp only [legS, if_true] at h ⊢
    rcases h.2 with ⟨g, r, h1, h2⟩ | ⟨g, h⟩
    · exact ⟨r, h2, fun H2 => ⟨⟨r, H2, rfl, rfl⟩, .inl ⟨g, r, h1, fun _ _ => Iff.rfl⟩⟩⟩
    · exact ⟨.tup [], h, fun H2 => ⟨⟨_, H2, rfl, rfl⟩, .inr ⟨g, fun _ _ => Iff.rfl⟩⟩⟩
  | false =>
    have hc : cls o.op = 0 := by simpa [lightS] using hl
    simp only [legS, Bool.false_eq_true, if_false] at h ⊢
    obtain ⟨r, _, h2, h3⟩ := leg_light hc h
    exact ⟨r, h2, h3⟩
theorem legS_same {ops : Array Oper} {S : Heap → Prop} {d : Bool} {o : Oper} {σ : Slots} {H H' : Heap} {r r' : SV} (hl : lightS d o = true) (hS : S H) (h : legS P ops S d o σ H (fun r1 H1 => r1 = r ∧ H1 = H)) (h' : legS P ops S d o σ H' (fun r1 H1 => r1 = r' ∧ H1 = H')) : r = r' := by
  cases d with
  | true =>
    simp only [legS, if_true] at h h'
    rcases h.2 with ⟨g, a, h1, h2⟩ | ⟨g, h2⟩
    · rcases h'.2 with ⟨g', b, k1, k2⟩ | ⟨g', _⟩
      · have e1 : r = a := ((h2 r H).1 ⟨rfl, rfl⟩).1
        have e2 : r' = b := ((k2 r' H').1 ⟨rfl, rfl⟩).1
        have := (h1 H hS).symm.trans (k1 H hS)
        rw [e1, e2]
        simpa using this
      · rw [g] at g'; simp at g'
    · rcases h'.2 with ⟨g', _⟩ | ⟨g', k2⟩
      · rw [g] at g'; simp at g'
      · rw [((h2 r H).1 ⟨rfl, rfl⟩).1, ((k2 r' H').1 ⟨rfl, rfl⟩).1]
  | false =>
    have hc : cls o.op = 0 := by simpa [lightS] using hl
    simp only [legS, Bool.false_eq_true, if_false] at h h'
    obtain ⟨a, l1, h2, _⟩ := leg_light hc h
    obtain ⟨b, l2, k2, _⟩ := leg_light hc h'
    rw [l1] at l2
    have e1 : r = a := ((h2 r H).1 ⟨rfl, rfl⟩).1
    have e2 : r' = b := ((k2 r' H').1 ⟨rfl, rfl⟩).1
    rw [e1, e2]
    simpa using l2

def pairOkS (D : List Nat) (ops : Array Oper) (k i : Nat) (x y : Oper) : Bool := x.apart ops y && (lightS (hasD D k) x || lightS (hasD D i) y || (cls x.op == 1 && cls y.op == 1 && (userCall x.op).isNone && (userCall y.op).isNone))

theorem stepS_swap {n : Nat} {ops : Array Oper} {S : Heap → Prop} {D : List Nat} {k i : Nat} {x y : Oper} {s : St} {K : St → Prop} (hS : S s.H) (hp : pairOkS D ops k i x y = true) (h : stepS P n ops S (hasD D k) x s (fun s1 => stepS P n ops S (hasD D i) y s1 K)) :
    stepS P n ops S (hasD D i) y s (fun s2 => stepS P n ops S (hasD D k) x s2 K) := by
  simp only [pairOkS, Bool.and_eq_true, Bool.or_eq_true, beq_iff_eq] at hp
  obtain ⟨hap, hcl⟩ := hp
  obtain ⟨a1, a2, a3⟩ := Oper.apart_spec hap
  obtain ⟨dx, Qx, lx, kx⟩ := h
  have oy : ∀ r, ∀ z ∈ y.op.operands, sval (updO s.σ x.dst r) z = sval s.σ z := fun r z hz => sval_updO (fun t ht => apart_op (a1 t ht) hz)
  have ox : ∀ r, ∀ z ∈ x.op.operands, sval (updO s.σ y.dst r) z = sval s.σ z := fun r z hz => sval_updO (fun t ht => apart_op (a3 t ht) hz)
  have gy : ∀ r, gst ops y (updO s.σ x.dst r) = gst ops y s.σ := fun r => apart_gst a1
  have gx : ∀ r, gst ops x (updO s.σ y.dst r) = gst ops x s.σ := fun r => apart_gst a3
  have comm : ∀ rx ry, updO (updO s.σ x.dst rx) y.dst ry = updO (updO s.σ y.dst ry) x.dst rx := fun rx ry => updO_comm a2
  obtain ⟨r1, H1, hq1⟩ := legS_ne lx
  obtain ⟨hS1, dy, Qy, ly, ky⟩ := kx r1 H1 hq1
  rcases hcl with (hc | hc) | ⟨⟨⟨hc1, hc2⟩, hu1⟩, hu2⟩
  · obtain ⟨rx, hQ, hany⟩ := legS_light hc lx
    obtain ⟨rfl, rfl⟩ := (hQ _ _).1 hq1
    refine ⟨dy, Qy, legS_congr (oy _) (gy _) ly, fun ry Hy hq => ⟨(ky ry Hy hq).1, dx, _, legS_congr (fun z hz => (ox ry z hz).symm) (gx ry).symm (hany Hy), ?_⟩⟩
    rintro _ _ ⟨rfl, rfl⟩
    have := ky ry _ hq
    simp only at this ⊢
    rwa [comm] at this
  · obtain ⟨ry, hQ, hany⟩ := legS_light hc ly
    refine ⟨dy, _, legS_congr (oy _) (gy _) (hany s.H), fun ry2 H2 hq2 => ?_⟩
    rw [hq2.1, hq2.2]
    refine ⟨hS, dx, Qx, legS_congr (fun z hz => (ox _ z hz).symm) (gx _).symm lx, fun rx Hx hq => ?_⟩
    obtain ⟨hSx, _, Qy', ly', ky'⟩ := kx rx Hx hq
    obtain ⟨ry', hQ', hany'⟩ := legS_light hc ly'
    have e : ry = ry' := legS_same hc hS (legS_congr (oy _) (gy _) (hany s.H)) (legS_congr (oy _) (gy _) (hany' s.H))
    subst e
    have := ky' ry Hx ((hQ' _ _).2 ⟨rfl, rfl⟩)
    simp only at this ⊢
    rwa [comm] at this
  · have hu1 : userCall x.op = none := by simpa using hu1
    have hu2 : userCall y.op = none := by simpa using hu2
    have rd : ∀ {d : Bool} {o : Oper} {σ : Slots} {H : Heap} {Q : SV → Heap → Prop}, cls o.op = 1 → userCall o.op = none → legS P ops S d o σ H Q → ∃ r, ∀ r1 H1, Q r1 H1 ↔ r1 = r ∧ H1 = H := by
      intro d o σ H Q c1 u1 hl
      cases d with
      | true =>
        obtain ⟨r, h2, _⟩ := legS_light (by simp [lightS]) hl
        exact ⟨r, h2⟩
      | false =>
        simp only [legS, Bool.false_eq_true, if_false] at hl
        exact leg_read c1 u1 hl
    obtain ⟨rx, hQ⟩ := rd hc1 hu1 lx
    obtain ⟨rfl, rfl⟩ := (hQ _ _).1 hq1
    obtain ⟨ry, hQy⟩ := rd hc2 hu2 ly
    refine ⟨dy, Qy, legS_congr (oy _) (gy _) ly, fun ry' Hy hq => ?_⟩
    obtain ⟨rfl, rfl⟩ := (hQy _ _).1 hq
    refine ⟨hS, dx, Qx, legS_congr (fun z hz => (ox _ z hz).symm) (gx _).symm lx, fun rx' Hx hq' => ?_⟩
    obtain ⟨rfl, rfl⟩ := (hQ _ _).1 hq'
    have := ky _ _ hq
    simp only at this ⊢
    rwa [comm] at this

theorem opsS_front {n : Nat} {ops : Array Oper} {S : Heap → Prop} {D : List Nat} {i : Nat} {y : Oper} (hy : ops[i]? = some y) {K : St → Prop} : ∀ (l1 : List Nat) (l2 : List Nat) (s : St), S s.H → (∀ k ∈ l1, ∀ x, ops[k]? = some x → pairOkS D ops k i x y = true) →
    opsS P n ops S D (l1 ++ i :: l2) s K → opsS P n ops S D (i :: (l1 ++ l2)) s K
  | [], l2, s, _, _, h => h
  | k :: l1, l2, s, hS, hp, h => by
    simp only [List.cons_append, opsS] at h
    obtain ⟨x, hx, h1⟩ := h
    have h2 : stepS P n ops S (hasD D k) x s (fun s1 => stepS P n ops S (hasD D i) y s1 (fun s2 => opsS P n ops S D (l1 ++ l2) s2 K)) := stepS_mono h1 fun s1 hS1 g => by
      obtain ⟨y', hy', g⟩ := opsS_front hy l1 l2 s1 hS1 (fun k' hk' => hp k' (by simp [hk'])) g
      rw [hy] at hy'
      simp at hy'; subst hy'
      exact g
    refine ⟨y, hy, stepS_mono (stepS_swap hS (hp k (by simp) x hx) h2) fun s2 _ g => ?_⟩
    simp only [List.cons_append, opsS]
    exact ⟨x, hx, g⟩

theorem stepS_real {n : Nat} {ops : Array Oper} {S : Heap → Prop} {d : Bool} {i : Nat} {o : Oper} {s : St} {j : JMap} {a : Act} {w : World} {K : Act → World → Prop} {Q : Exit → Act → World → Prop} {A : St → Prop} (hS : S s.H) (ho : ops[i]? = some o) (h : stepS P n ops S d o s A) (ha : SAll n j s a w)
    (hk : ∀ j' s' a' w', SAll n j' s' a' w' → Nx j s.H w j' s'.H w' → S s'.H → A s' → K a' w') : wpOp P ops Q i K a w := by
  have hN : stepN P n ops o s (fun s' => S s'.H ∧ A s') := by
    obtain ⟨hd, R, hl, h⟩ := h
    refine ⟨hd, R, ?_, h⟩
    cases d with
    | false => simpa only [legS, Bool.false_eq_true, if_false] using hl
    | true =>
      simp only [legS, if_true] at hl
      refine ⟨hl.1, ?_⟩
      rcases hl.2 with ⟨g, r, h1, h2⟩ | ⟨g, h2⟩
      · refine .inl ⟨g, ?_⟩
        have h3 := h1 s.H hS
        split
        · rename_i c hc
          exfalso
          obtain ⟨dst, op, type, pos, after, guard⟩ := o
          cases op <;> simp only [userCall] at hc <;> try (simp at hc; done)
          rename_i c'
          obtain ⟨callee, args, argTypes⟩ := c'
          cases callee <;> simp [sop] at hc h3
        · exact ⟨r, s.H, h3, h2⟩
      · exact .inr ⟨g, h2⟩
  exact stepN_real ho hN ha fun j' s' a' w' h1 h2 h3 => hk j' s' a' w' h1 h2 h3.1 h3.2

def drawOkS (D : List Nat) (ops : Array Oper) : Bool :=
  (List.range ops.size).all fun i => match ops[i]? with
    | some y => (y.after.all fun e => !Region.binds .any e || decide (e.on < i)) && (List.range i).all fun k => match ops[k]? with
      | some x => waits y k || pairOkS D ops k i x y || waitsT ops 6 y k
      | none => true
    | none => true

theorem wpAny_of_opsS {n : Nat} {ops : Array Oper} {S : Heap → Prop} {D : List Nat} {Q : Exit → Act → World → Prop} {K : St → Prop} (hok : drawOkS D ops = true) : ∀ (fuel : Nat) (listed : Array Bool) (s : St) (j : JMap) (a : Act) (w : World), listed.size = ops.size → ClosedL ops listed →
    (left ops.size listed).length ≤ fuel → S s.H → opsS P n ops S D (left ops.size listed) s K → SAll n j s a w → (∀ j' s' a' w', SAll n j' s' a' w' → Nx j s.H w j' s'.H w' → K s' → Q .normal a' w') → wpAny P .any ops Q fuel listed a w := by
  have hok' : ∀ i y, ops[i]? = some y → (∀ e ∈ y.after, Region.binds .any e = true → e.on < i) ∧ ∀ k, k < i → ∀ x, ops[k]? = some x → waitsT ops 6 y k = true ∨ pairOkS D ops k i x y = true := by
    intro i y hy
    have hi : i < ops.size := by
      rcases Nat.lt_or_ge i ops.size with h | h
      · exact h
      · rw [Array.getElem?_eq_none h] at hy; simp at hy
    have := List.all_eq_true.1 hok i (by simpa using hi)
    rw [hy] at this
    simp only [Bool.and_eq_true] at this
    refine ⟨fun e he hb => ?_, fun k hk x hx => ?_⟩
    · have h1 := Array.all_eq_true.1 this.1
      obtain ⟨m, hm, rfl⟩ := Array.mem_iff_getElem.1 he
      have := h1 m hm
      simpa [hb] using this
    · have := List.all_eq_true.1 this.2 k (by simpa using hk)
      rw [hx] at this
      simp only [Bool.or_eq_true] at this
      rcases this with (h | h) | h
      · exact .inl (by simp only [waitsT, h, Bool.true_or])
      · exact .inr h
      · exact .inl h
  have ready_nil : ∀ listed : Array Bool, listed.size = ops.size → Region.ready .any ops listed = [] → left ops.size listed = [] := by
    intro listed hs hr
    cases hl : left ops.size listed with
    | nil => rfl
    | cons i rest =>
      exfalso
      have hmem : i ∈ left ops.size listed := by rw [hl]; simp
      have hi := List.mem_filter.1 hmem
      have hlt : i < ops.size := by simpa using hi.1
      have hsmall : ∀ k, k < i → listed.getD k true = true := by
        intro k hk
        cases hk' : listed.getD k true with
        | true => rfl
        | false =>
          exfalso
          have hkm : k ∈ left ops.size listed := List.mem_filter.2 ⟨by simp; omega, by simp [hk']⟩
          have hsorted : (left ops.size listed).Pairwise (· < ·) := (List.pairwise_lt_range).filter _
          rw [hl] at hsorted hkm
          rcases List.mem_cons.1 hkm with rfl | h
          · omega
          · have := (List.pairwise_cons.1 hsorted).1 k h
            omega
      have : i ∈ Region.ready .any ops listed := by
        refine List.mem_filter.2 ⟨by simpa using hlt, ?_⟩
        rw [Array.getElem?_eq_getElem hlt]
        simp only [Option.map_some, Option.getD_some, Bool.and_eq_true]
        refine ⟨hi.2, Array.all_eq_true.2 (fun m hm => ?_)⟩
        cases hb : Region.binds .any (ops[i]).after[m] with
        | false => simp
        | true =>
          have h1 := (hok' i ops[i] (Array.getElem?_eq_getElem hlt)).1 _ (Array.getElem_mem hm) hb
          have h2 := hsmall _ h1
          have h3 : listed.getD ((ops[i]).after[m]).on false = true := by
            rw [Array.getD_eq_getD_getElem?, Array.getElem?_eq_getElem (by omega)] at h2 ⊢
            simpa using h2
          simp [h3]
      rw [hr] at this
      simp at this
  intro fuel
  induction fuel with
  | zero =>
    intro listed s j a w hs hcl hf hS hrun ha hq
    have hl : left ops.size listed = [] := by simpa using hf
    rw [hl] at hrun
    simp only [opsS] at hrun
    refine ⟨?_, hq j s a w ha (Nx.refl _ _ _) hrun⟩
    cases hr : Region.ready .any ops listed with
    | nil => rfl
    | cons i rest =>
      exfalso
      have hm : i ∈ Region.ready .any ops listed := by rw [hr]; simp
      have hm := List.mem_filter.1 hm
      simp only [Bool.and_eq_true] at hm
      have : i ∈ left ops.size listed := List.mem_filter.2 ⟨hm.1, hm.2.1⟩
      rw [hl] at this; simp at this
  | succ fuel ih =>
    intro listed s j a w hs hcl hf hS hrun ha hq
    refine ⟨fun hr => ?_, fun i hi => ?_⟩
    · rw [ready_nil listed hs hr] at hrun
      simp only [opsS] at hrun
      exact hq j s a w ha (Nx.refl _ _ _) hrun
    · have hm := List.mem_filter.1 hi
      simp only [Bool.and_eq_true] at hm
      have hlt : i < ops.size := by simpa using hm.1
      have hno : listed.getD i true = false := by simpa using hm.2.1
      have hy : ops[i]? = some ops[i] := Array.getElem?_eq_getElem hlt
      have hdir : ∀ e ∈ (ops[i]).after, Region.binds .any e = true → listed.getD e.on false = true := by
        intro e he hb
        have hall := hm.2.2
        rw [hy] at hall
        simp only [Option.map_some, Option.getD_some] at hall
        obtain ⟨m, hm', rfl⟩ := Array.mem_iff_getElem.1 he
        have := Array.all_eq_true.1 hall m hm'
        rw [hb] at this
        simpa only [Bool.not_true, Bool.false_or] using this
      have hset : ∀ m, listed.getD m false = true → (listed.setIfInBounds i true).getD m false = true := by
        intro m h
        by_cases hmi : m = i
        · subst hmi
          simp [Array.getD_eq_getD_getElem?, hs, hlt]
        · rw [Array.getD_eq_getD_getElem?] at h ⊢
          rw [Array.getElem?_setIfInBounds_ne (Ne.symm hmi)]
          exact h
      have hcl' : ClosedL ops (listed.setIfInBounds i true) := by
        intro m y hmy hlm e he hb
        by_cases hmi : m = i
        · subst hmi
          rw [hy] at hmy
          simp at hmy
          subst hmy
          exact hset _ (hdir e he hb)
        · refine hset _ (hcl m y hmy ?_ e he hb)
          rw [Array.getD_eq_getD_getElem?] at hlm ⊢
          rwa [Array.getElem?_setIfInBounds_ne (Ne.symm hmi)] at hlm
      obtain ⟨l1, l2, e1, e2, e3⟩ := left_split hs hlt hno
      rw [e1] at hrun
      have hfront := opsS_front hy l1 l2 s hS (fun k hk x hx => by
        obtain ⟨hk1, hk2⟩ := e3 k hk
        refine ((hok' i _ hy).2 k hk1 x hx).resolve_left (fun hw => ?_)
        have := waitsT_listed hcl 6 _ hdir hw
        rw [Array.getD_eq_getD_getElem?, Array.getElem?_eq_getElem (by omega)] at this hk2
        simp at this hk2
        rw [this] at hk2; simp at hk2) hrun
      simp only [opsS] at hfront
      obtain ⟨y, hy', hstep⟩ := hfront
      refine stepS_real hS hy' hstep ha (fun j' s1 a' w' h1 h2 hS1 hrest => ?_)
      refine ih (listed.setIfInBounds i true) s1 j' a' w' (by simpa using hs) hcl' ?_ hS1 (by rw [e2]; exact hrest) h1 (fun j'' s'' a'' w'' g1 g2 g3 => hq j'' s'' a'' w'' g1 (h2.trans g2) g3)
      rw [e2]
      rw [e1] at hf
      simp at hf ⊢
      omega

def heavy (o : Op) : Bool := decide (2 ≤ cls o) || (userCall o).isSome
class KQ where
  s : Heap → Prop
  k : SV → Prop
def LoadS (P : Program) (t : TypeId) (a : SV) [K : KQ] : Prop := ∃ r, (∀ H2, K.s H2 → sload P H2 t a = some r) ∧ K.k r
def SliceS (P : Program) (t : TypeId) (x : SV) (lo hi mx : Option SV) [K : KQ] : Prop := ∃ r, (∀ H2, K.s H2 → sslice P H2 t x lo hi mx = some r) ∧ K.k r
def opsNS (P : Program) (n : Nat) (ops : Array Oper) (S : Heap → Prop) (D : List Nat) : Nat → List Oper → St → (St → Prop) → Prop
  | _, [], s, K => K s
  | i, o :: rest, s, K => match o.guard with
    | none => if hasD D i = true then (match o.op with
        | .load t x => @needW (dstOk n o.dst) ⟨@LoadS P t (sval s.σ x) ⟨S, fun r => opsNS P n ops S D (i + 1) rest ⟨updO s.σ o.dst r, s.H⟩ K⟩⟩
        | .slice t x lo hi mx => @needW (dstOk n o.dst) ⟨@SliceS P t (globO x (sval s.σ x)) (lo.map (sval s.σ)) (hi.map (sval s.σ)) (mx.map (sval s.σ)) ⟨S, fun r => opsNS P n ops S D (i + 1) rest ⟨updO s.σ o.dst r, s.H⟩ K⟩⟩
        | _ => False)
      else if heavy o.op = true then opN P n o s (fun s' => @needW (S s'.H) ⟨opsNS P n ops S D (i + 1) rest s' K⟩) else opN P n o s (fun s' => opsNS P n ops S D (i + 1) rest s' K)
    | some _ => False

theorem stepN_S {n : Nat} {ops : Array Oper} {S : Heap → Prop} {o : Oper} {s : St} {K : St → Prop} (h : stepN P n ops o s (fun s' => S s'.H ∧ K s')) : stepS P n ops S false o s K := by
  obtain ⟨hd, Q, hl, h⟩ := h
  exact ⟨hd, Q, by simpa only [legS, Bool.false_eq_true, if_false] using hl, h⟩
theorem stepN_keep {n : Nat} {ops : Array Oper} {o : Oper} {s : St} {K : St → Prop} (hh : heavy o.op = false) (h : stepN P n ops o s K) : stepN P n ops o s (fun s' => s'.H = s.H ∧ K s') := by
  obtain ⟨hd, Q, hl, h⟩ := h
  refine ⟨hd, Q, hl, fun r H' hq => ⟨?_, h r H' hq⟩⟩
  simp only [heavy, Bool.or_eq_false_iff, decide_eq_false_iff_not] at hh
  obtain ⟨h1, h2⟩ := hh
  have hu : userCall o.op = none := by simpa using h2
  rcases (by omega : cls o.op = 0 ∨ cls o.op = 1) with hc | hc
  · obtain ⟨_, _, h3, _⟩ := leg_light hc hl
    exact ((h3 r H').1 hq).2
  · obtain ⟨_, h3⟩ := leg_read hc hu hl
    exact ((h3 r H').1 hq).2
theorem opsS_of_opsNS {n : Nat} {ops : Array Oper} {S : Heap → Prop} {D : List Nat} {K : St → Prop} : ∀ (rest : List Oper) (i : Nat) (_ : ∀ k, rest[k]? = ops[i + k]?) (s : St), S s.H → opsNS P n ops S D i rest s K → opsS P n ops S D (List.range' i rest.length) s K
  | [], i, _, s, _, h => by simpa only [List.length_nil, List.range'_zero, opsS, opsNS] using h
  | o :: rest, i, hops, s, hS, h => by
    have ho : ops[i]? = some o := by simpa using (hops 0).symm
    have hrest : ∀ k, rest[k]? = ops[i + 1 + k]? := fun k => by
      have := hops (k + 1)
      simpa [Nat.add_assoc, Nat.add_comm 1 k] using this
    simp only [List.length_cons, List.range'_succ, opsS]
    refine ⟨o, ho, ?_⟩
    have hk : ∀ s', S s'.H → opsNS P n ops S D (i + 1) rest s' K → opsS P n ops S D (List.range' (i + 1) rest.length) s' K := fun s' hS' h' => opsS_of_opsNS rest (i + 1) hrest s' hS' h'
    simp only [opsNS] at h
    split at h
    · rename_i hg
      split at h
      · rename_i hd
        split at h
        · rename_i t x hop
          obtain ⟨hdk, r, h1, h2⟩ := h
          rw [hd]
          refine ⟨hdk, fun r1 H1 => r1 = r ∧ H1 = s.H, ?_, ?_⟩
          · simp only [legS, if_true]
            refine ⟨⟨r, s.H, rfl, rfl⟩, .inl ⟨by simp [gst, hg], r, fun H2 h3 => ?_, fun _ _ => Iff.rfl⟩⟩
            have h4 : sload P H2 t (sval s.σ x) = some r := h1 H2 h3
            rw [hop]
            simp only [sop, h4]
          · rintro _ _ ⟨rfl, rfl⟩
            exact ⟨hS, hk _ hS h2⟩
        · rename_i t x lo hi mx hop
          obtain ⟨hdk, r, h1, h2⟩ := h
          rw [hd]
          refine ⟨hdk, fun r1 H1 => r1 = r ∧ H1 = s.H, ?_, ?_⟩
          · simp only [legS, if_true]
            refine ⟨⟨r, s.H, rfl, rfl⟩, .inl ⟨by simp [gst, hg], r, fun H2 h3 => ?_, fun _ _ => Iff.rfl⟩⟩
            have h4 : sslice P H2 t (globO x (sval s.σ x)) (lo.map (sval s.σ)) (hi.map (sval s.σ)) (mx.map (sval s.σ)) = some r := h1 H2 h3
            rw [hop]
            simp only [sop, h4]
          · rintro _ _ ⟨rfl, rfl⟩
            exact ⟨hS, hk _ hS h2⟩
        · exact h.elim
      · rename_i hd
        have hd : hasD D i = false := by simpa using hd
        rw [hd]
        split at h
        · refine stepN_S (stepN_mono (opN_leg (by simp [gst, hg]) h) fun s' g => ⟨g.1, hk s' g.1 g.2⟩)
        · rename_i hh
          have hh : heavy o.op = false := by simpa using hh
          refine stepN_S (stepN_mono (stepN_keep hh (opN_leg (by simp [gst, hg]) h)) fun s' g => ?_)
          have hS' : S s'.H := by rw [g.1]; exact hS
          exact ⟨hS', hk s' hS' g.2⟩
    · exact h.elim

theorem SW.regionS {n : Nat} {id : Nat} {ops : Array Oper} {Q : Exit → St → Prop} {s : St} (S : Heap → Prop) (D : List Nat) (hm : P.follows .mixedOrders = true) (hok : drawOkS D ops = true) (hS : S s.H) (h : opsNS P n ops S D 0 ops.toList s (Q .normal)) : SW P n (.region id ops true) Q s := by
  intro j a w ha
  have hrun := opsS_of_opsNS ops.toList 0 (fun k => by simp) s hS h
  have hd : SAll n j s a w.drew := ⟨ha.rel.drew, ha.slots.nx ha.rel (Nx.drew j s.H w), ha.size, ha.defers⟩
  refine wp_region_any hm ?_
  have hleft : left ops.size (Array.replicate ops.size false) = List.range' 0 ops.toList.length := by
    unfold left
    rw [← List.range_eq_range']
    simp only [Array.length_toList]
    apply List.filter_eq_self.2
    intro k hk
    simp at hk
    simp [Array.getD_eq_getD_getElem?, hk]
  refine wpAny_of_opsS hok ops.size _ s j a w.drew (by simp) (fun m y _ h => by simp [Array.getD_eq_getD_getElem?, Array.getElem?_replicate] at h; split at h <;> simp at h) (by rw [hleft]; simp) hS (by rw [hleft]; exact hrun) hd (fun j' s' a' w' h1 h2 h3 => ⟨j', s', h1, (Nx.drew j s.H w).trans h2, h3⟩)
section
variable (n : Nat) (ops : Array Oper) (S : Heap → Prop) (D : List Nat) (i : Nat) (s : St) (K : St → Prop) (dst : Option Tmp) (ty : TypeId) (pos : String) (after : Array Edge)
theorem opsNS_nil : opsNS P n ops S D i [] s K = K s := (rfl)
theorem opsNS_cons (op : Op) (rest : List Oper) : opsNS P n ops S D i (⟨dst, op, ty, pos, after, none⟩ :: rest) s K =
    if hasD D i = true then (match op with
        | .load t x => @needW (dstOk n dst) ⟨@LoadS P t (sval s.σ x) ⟨S, fun r => opsNS P n ops S D (i + 1) rest ⟨updO s.σ dst r, s.H⟩ K⟩⟩
        | .slice t x lo hi mx => @needW (dstOk n dst) ⟨@SliceS P t (globO x (sval s.σ x)) (lo.map (sval s.σ)) (hi.map (sval s.σ)) (mx.map (sval s.σ)) ⟨S, fun r => opsNS P n ops S D (i + 1) rest ⟨updO s.σ dst r, s.H⟩ K⟩⟩
        | _ => False)
      else if heavy op = true then opN P n ⟨dst, op, ty, pos, after, none⟩ s (fun s' => @needW (S s'.H) ⟨opsNS P n ops S D (i + 1) rest s' K⟩) else opN P n ⟨dst, op, ty, pos, after, none⟩ s (fun s' => opsNS P n ops S D (i + 1) rest s' K) := (rfl)
end
theorem heavy_b (b : Builtin) (args : Array Operand) (ats : Array TypeId) : heavy (.call ⟨.builtin b, args, ats⟩) = (match b with | .len => false | .max => false | .min => false | _ => true) := by cases b <;> rfl
theorem heavy_alloc (t : TypeId) : heavy (.alloc t) = true := (rfl)
theorem heavy_box (t : TypeId) (x : Operand) : heavy (.box t x) = true := (rfl)
theorem heavy_move (x : Operand) : heavy (.move x) = false := (rfl)
theorem heavy_assign (x : Operand) : heavy (.assign x) = false := (rfl)
theorem heavy_pick (c x y : Operand) : heavy (.pick c x y) = false := (rfl)
theorem heavy_build (t : TypeId) (ps : Array (Nat × Operand)) : heavy (.build t ps) = false := (rfl)
theorem heavy_buildSlice (t : TypeId) (m : Nat) (ps : Array (Nat × Operand)) : heavy (.buildSlice t m ps) = true := (rfl)
theorem heavy_load (t : TypeId) (x : Operand) : heavy (.load t x) = false := (rfl)
theorem heavy_store (t : TypeId) (x y : Operand) : heavy (.store t x y) = true := (rfl)
theorem heavy_nilCheck (x : Operand) : heavy (.nilCheck x) = false := (rfl)
theorem heavy_binOp (op : BinOp) (t t2 : TypeId) (x y : Operand) : heavy (.binOp op t x y t2) = false := (rfl)
theorem heavy_unOp (op : UnOp) (t : TypeId) (x : Operand) : heavy (.unOp op t x) = false := (rfl)
theorem heavy_convert (a b : TypeId) (x : Operand) : heavy (.convert a b x) = decide (b = 51) := by
  have hb : BYT = 51 := rfl
  by_cases h : b = 51 <;> simp [heavy, cls, userCall, hb, h]
theorem heavy_makeInterface (t : TypeId) (x : Operand) : heavy (.makeInterface t x) = false := (rfl)
theorem heavy_makeFunc (fn : Fn) (f c : Array Operand) : heavy (.makeFunc fn f c) = false := (rfl)
theorem heavy_makeSlice (t : TypeId) (l c : Operand) : heavy (.makeSlice t l c) = true := (rfl)
theorem heavy_slice (t : TypeId) (x : Operand) (lo hi mx : Option Operand) : heavy (.slice t x lo hi mx) = false := (rfl)
theorem heavy_fieldAddr (t : TypeId) (x : Operand) (f : Nat) : heavy (.fieldAddr t x f) = false := (rfl)
theorem heavy_field (t : TypeId) (x : Operand) (f : Nat) : heavy (.field t x f) = false := (rfl)
theorem heavy_indexAddr (t : TypeId) (x i : Operand) : heavy (.indexAddr t x i) = false := (rfl)
theorem heavy_index (t : TypeId) (x i : Operand) : heavy (.index t x i) = false := (rfl)
theorem heavy_extract (x : Operand) (i : Nat) : heavy (.extract x i) = false := (rfl)
theorem heavy_call (x : Operand) (args : Array Operand) (ats : Array TypeId) : heavy (.call ⟨.value x, args, ats⟩) = true := (rfl)
attribute [go_sem ↓] opsNS_nil opsNS_cons heavy_b heavy_alloc heavy_box heavy_move heavy_assign heavy_pick heavy_build heavy_buildSlice heavy_load heavy_store heavy_nilCheck heavy_binOp heavy_unOp heavy_convert heavy_makeInterface heavy_makeFunc heavy_makeSlice heavy_slice heavy_fieldAddr heavy_field heavy_indexAddr heavy_index heavy_extract heavy_call
def drawsOk4 (D : List Nat) (r : Nat) (E : List Nat) : Code → Bool
  | .region id ops draw => !draw || (if id = r then drawOkS E ops else if hasD D id then drawOkN ops else drawOk ops)
  | .seq a b => drawsOk4 D r E a && drawsOk4 D r E b
  | .cond _ a b => drawsOk4 D r E a && drawsOk4 D r E b
  | .block _ c => drawsOk4 D r E c
  | .loop c => drawsOk4 D r E c
  | _ => true
def vc4 (P : Program) (D : List Nat) (r : Nat) (S : Heap → Prop) (E : List Nat) (n : Nat) : Code → (Exit → St → Prop) → St → Prop
  | .skip, Q, s => Q .normal s
  | .label _, Q, s => Q .normal s
  | .region id ops draw, Q, s => if draw = true then (if id = r then S s.H ∧ opsNS P n ops S E 0 ops.toList s (Q .normal) else if hasD D id = true then opsN P n ops ops.toList s (Q .normal) else opsW P n true ops ops.toList s (Q .normal)) else opsW P n false ops ops.toList s (Q .normal)
  | .seq a b, Q, s => vc4 P D r S E n a (seqQ (fun s' => vc4 P D r S E n b Q s') Q) s
  | .cond c a b, Q, s => match sval s.σ c with
    | .val (.bool t) => (t = true → vc4 P D r S E n a Q s) ∧ (t = false → vc4 P D r S E n b Q s)
    | _ => False
  | .block id c, Q, s => vc4 P D r S E n c (blockQ id Q) s
  | .loop c, Q, s => SW P n (.loop c) Q s
  | .exit id, Q, s => Q (.exit id) s
  | .ret, Q, s => Q .ret s
  | _, _, _ => False
theorem SW_of_vc4 (D : List Nat) (r : Nat) (S : Heap → Prop) (E : List Nat) {n : Nat} (hm : P.follows .mixedOrders = true) : ∀ (c : Code) (Q : Exit → St → Prop) (s : St), drawsOk4 D r E c = true → vc4 P D r S E n c Q s → SW P n c Q s
  | .skip, Q, s, _, h => SW.skip h
  | .label _, Q, s, _, h => SW.label h
  | .region id ops draw, Q, s, hd, h => by
    cases draw with
    | false => exact SW.region (by simpa [vc4] using h)
    | true =>
      simp only [vc4, if_true] at h
      simp only [drawsOk4, Bool.not_true, Bool.false_or] at hd
      by_cases hr : id = r
      · rw [if_pos hr] at h hd
        exact SW.regionS S E hm hd h.1 h.2
      · rw [if_neg hr] at h hd
        by_cases hc : hasD D id = true
        · rw [if_pos hc] at h hd
          exact SW.regionN hm hd h
        · rw [if_neg hc] at h hd
          exact SW.regionD hm hd h
  | .seq a b, Q, s, hd, h => by
    simp only [drawsOk4, Bool.and_eq_true] at hd
    refine SW.seq (SW.mono (SW_of_vc4 D r S E hm a _ s hd.1 h) ?_)
    intro e s' he
    cases e with
    | normal => exact SW_of_vc4 D r S E hm b Q s' hd.2 he
    | _ => exact he
  | .cond c a b, Q, s, hd, h => by
    simp only [drawsOk4, Bool.and_eq_true] at hd
    simp only [vc4] at h
    split at h
    · rename_i t ht
      exact SW.cond ht (fun e => SW_of_vc4 D r S E hm a Q s hd.1 (h.1 e)) (fun e => SW_of_vc4 D r S E hm b Q s hd.2 (h.2 e))
    · exact h.elim
  | .block id c, Q, s, hd, h => SW.block (SW_of_vc4 D r S E hm c _ s (by simpa [drawsOk4] using hd) h)
  | .loop c, Q, s, _, h => h
  | .exit id, Q, s, _, h => SW.exit h
  | .ret, Q, s, _, h => SW.ret h
  | .rangeFunc _ _ _ _, _, _, _, h => h.elim
  | .scope _, _, _, _, h => h.elim
  | .goto _, _, _, _, h => h.elim
  | .refuse _, _, _, _, h => h.elim
section
variable (D : List Nat) (r : Nat) (S : Heap → Prop) (E : List Nat)
theorem vc4_skip (n : Nat) (Q : Exit → St → Prop) (s : St) : vc4 P D r S E n .skip Q s = Q .normal s := (rfl)
theorem vc4_label (n l : Nat) (Q : Exit → St → Prop) (s : St) : vc4 P D r S E n (.label l) Q s = Q .normal s := (rfl)
theorem vc4_regionF (n id : Nat) (l : List Oper) (Q : Exit → St → Prop) (s : St) : vc4 P D r S E n (.region id l.toArray false) Q s = opsW P n false l.toArray l s (Q .normal) := (rfl)
theorem vc4_regionT (n id : Nat) (l : List Oper) (Q : Exit → St → Prop) (s : St) : vc4 P D r S E n (.region id l.toArray true) Q s = if id = r then @needW (S s.H) ⟨opsNS P n l.toArray S E 0 l s (Q .normal)⟩ else if hasD D id = true then opsN P n l.toArray l s (Q .normal) else opsW P n true l.toArray l s (Q .normal) := (rfl)
theorem vc4_seq (n : Nat) (a b : Code) (Q : Exit → St → Prop) (s : St) : vc4 P D r S E n (.seq a b) Q s = vc4 P D r S E n a (seqQ (fun s' => vc4 P D r S E n b Q s') Q) s := (rfl)
theorem vc4_cond (n : Nat) (c : Operand) (a b : Code) (Q : Exit → St → Prop) (s : St) : vc4 P D r S E n (.cond c a b) Q s = @condW (sval s.σ c) ⟨vc4 P D r S E n a Q s, vc4 P D r S E n b Q s⟩ := (rfl)
theorem vc4_block (n id : Nat) (c : Code) (Q : Exit → St → Prop) (s : St) : vc4 P D r S E n (.block id c) Q s = vc4 P D r S E n c (blockQ id Q) s := (rfl)
theorem vc4_loop (n : Nat) (c : Code) (Q : Exit → St → Prop) (s : St) : vc4 P D r S E n (.loop c) Q s = @LoopW P n s ⟨c, Q⟩ := (rfl)
theorem vc4_exit (n id : Nat) (Q : Exit → St → Prop) (s : St) : vc4 P D r S E n (.exit id) Q s = Q (.exit id) s := (rfl)
theorem vc4_ret (n : Nat) (Q : Exit → St → Prop) (s : St) : vc4 P D r S E n .ret Q s = Q .ret s := (rfl)
end
attribute [go_sem ↓] vc4_skip vc4_label vc4_regionF vc4_regionT vc4_seq vc4_cond vc4_block vc4_loop vc4_exit vc4_ret
end Go.Sh
