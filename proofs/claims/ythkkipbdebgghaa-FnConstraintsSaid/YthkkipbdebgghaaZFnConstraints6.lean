/-
  Texts put together: AF5, AF6, AF2, AF7, AF8, AF4, AF9, PF1, EFnConstraints, LiftB. What each proves stands at its own head, with its conditions.
-/
import Derived.Test.YthkkipbdebgghaaZFnConstraints5

/-
  The chain from an item down to distance zero: plain.
-/
namespace Go.Sh
set_option linter.unusedSimpArgs false
set_option linter.unusedVariables false
open Go Go.Proofs

theorem adjC_mustB {C : List Con} {x y : Nat} : adjC C x y ↔ mustB C x y = true := by
  rw [mustB, List.any_eq_true]
  constructor
  · rintro ⟨c, h1, h2, h3⟩
    refine ⟨c, h1, ?_⟩
    simp only [linkB, h2, Bool.true_and, Bool.or_eq_true, decide_eq_true_eq]
    exact h3
  · rintro ⟨c, h1, h2⟩
    simp only [linkB, Bool.and_eq_true, Bool.or_eq_true, decide_eq_true_eq] at h2
    exact ⟨c, h1, h2.1, h2.2⟩
theorem FarTo.farL {n : Nat} {C : List Con} {b : Nat} {F : List Int} (hb : b < n) (ha : ∀ x y, adjC C x y → y < n) (h : FarTo n C b n F) : FarL n C b F := by
  refine ⟨h.1, fun x hx => ?_⟩
  rcases h.2 x hx with ⟨h1, h2⟩ | ⟨d, _, h1, h2⟩
  · refine .inl ⟨h1, fun d hd => ?_⟩
    obtain ⟨e, he, hD⟩ := isD_of d hd
    have := isD_lt hb ha hD
    exact h2 (rk_mono hD.1 (by omega))
  · exact .inr ⟨d, h1, h2⟩
def fi (n : Nat) (p : Nat → Bool) : Nat := (List.range n).findIdx p
theorem fi_le (n : Nat) (p : Nat → Bool) : fi n p ≤ n := by
  have := List.findIdx_le_length (p := p) (xs := List.range n)
  simpa [fi] using this
theorem fi_at {n : Nat} {p : Nat → Bool} (h : fi n p < n) : p (fi n p) = true := by
  have h2 : (List.range n).findIdx p < (List.range n).length := by simpa [fi] using h
  have := List.findIdx_getElem (w := h2)
  simpa [fi] using this
theorem fi_min {n : Nat} {p : Nat → Bool} {y : Nat} (hy : y < fi n p) : p y = false := by
  have h2 : y < (List.range n).findIdx p := hy
  have hn : y < n := by have := fi_le n p; omega
  have := List.not_of_lt_findIdx h2
  simpa using this
theorem fi_eq {n : Nat} {p : Nat → Bool} {k : Nat} (hk : k < n) (h1 : p k = true) (h2 : ∀ y, y < k → p y = false) : fi n p = k := by
  rcases Nat.lt_trichotomy (fi n p) k with h | h | h
  · have := fi_at (n := n) (p := p) (by omega)
    rw [h2 _ h] at this; cases this
  · exact h
  · have := fi_min h
    rw [h1] at this; cases this
theorem fi_none {n : Nat} {p : Nat → Bool} (h : ∀ y, y < n → p y = false) : fi n p = n := by
  have := fi_le n p
  by_cases hl : fi n p < n
  · have h1 := fi_at hl
    rw [h _ hl] at h1; cases h1
  · omega
theorem fi_lt {n : Nat} {p : Nat → Bool} {k : Nat} (hk : k < n) (h : p k = true) : fi n p ≤ k := by
  by_cases hl : fi n p ≤ k
  · exact hl
  · have := fi_min (n := n) (p := p) (y := k) (by omega)
    rw [h] at this; cases this
theorem fi_congr {n : Nat} {p q : Nat → Bool} (h : ∀ y, y < n → p y = q y) : fi n p = fi n q := by
  by_cases hl : fi n q < n
  · refine fi_eq hl (by rw [h _ hl]; exact fi_at hl) fun y hy => by
      have hn := fi_le n q
      rw [h y (by omega)]; exact fi_min hy
  · have := fi_le n q
    have e : fi n q = n := by omega
    rw [e]
    exact fi_none fun y hy => by rw [h y hy]; exact fi_min (n := n) (p := q) (by omega)
theorem fi_put {n : Nat} {p q : Nat → Bool} {z : Nat} (hz : z < n) (h : ∀ y, y < n → q y = (p y || decide (y = z))) : fi n q = min (fi n p) z := by
  by_cases hl : fi n p < z
  · rw [Nat.min_eq_left (by omega)]
    refine fi_eq (by omega) (by rw [h _ (by omega), fi_at (n := n) (p := p) (by omega)]; rfl) fun y hy => ?_
    rw [h y (by omega), fi_min (n := n) (p := p) hy, decide_eq_false (by omega)]; rfl
  · rw [Nat.min_eq_right (by omega)]
    refine fi_eq hz (by rw [h _ hz]; simp) fun y hy => ?_
    rw [h y (by omega), fi_min (n := n) (p := p) (by omega), decide_eq_false (by omega)]; rfl
/-- Is y one step nearer than a, along the constraints of P? -/
def near (P : List Con) (F : List Int) (a y : Nat) : Bool := mustB P a y && decide (F.getD y 0 = F.getD a 0 - 1)
def pkn (n : Nat) (C : List Con) (F : List Int) (a : Nat) : Nat := fi n (near C F a)
def chn (n : Nat) (C : List Con) (F : List Int) : Nat → Nat → List Int
  | 0, a => [(a : Int)]
  | d + 1, a => (a : Int) :: chn n C F d (pkn n C F a)
theorem chn_length (n : Nat) (C : List Con) (F : List Int) : ∀ d a, (chn n C F d a).length = d + 1
  | 0, a => rfl
  | d + 1, a => by rw [chn, List.length_cons, chn_length n C F d]
theorem FarL.pkn {n : Nat} {C : List Con} {b : Nat} {F : List Int} (h : FarL n C b F) (ha : ∀ x y, adjC C x y → y < n) {a d : Nat} (hn : a < n) (hF : F.getD a 0 = ((d + 1 : Nat) : Int)) :
    Go.Sh.pkn n C F a < n ∧ F.getD (Go.Sh.pkn n C F a) 0 = (d : Int) ∧ mustB C a (Go.Sh.pkn n C F a) = true := by
  rcases h.2 a hn with ⟨h1, _⟩ | ⟨e, h1, h2⟩
  · omega
  · obtain rfl : e = d + 1 := by omega
    obtain ⟨y, g1, g2⟩ := isD_prev h2
    have hy : y < n := ha a y (adjC_symm g2)
    have hFy : F.getD y 0 = (d : Int) := by
      rcases h.2 y hy with ⟨f1, f2⟩ | ⟨e, f1, f2⟩
      · exact absurd g1.1 (f2 d)
      · rw [f1, isD_uniq f2 g1]
    have hp : near C F a y = true := by
      rw [near, adjC_mustB.1 (adjC_symm g2), hFy, hF, decide_eq_true (by omega)]; rfl
    have hle := fi_lt hy hp
    have hlt : fi n (near C F a) < n := by omega
    have := fi_at hlt
    rw [near, Bool.and_eq_true, decide_eq_true_eq] at this
    exact ⟨hlt, by show F.getD (fi n (near C F a)) 0 = _; omega, this.1⟩
open Classical in
noncomputable def farL (n : Nat) (C : List Con) (b : Nat) : List Int := if h : ∃ F, FarL n C b F then Classical.choose h else []
theorem FarL.eq {n : Nat} {C : List Con} {b : Nat} {F : List Int} (h : FarL n C b F) : F = farL n C b := by
  have hex : ∃ F, FarL n C b F := ⟨F, h⟩
  rw [farL, dif_pos hex]
  exact h.uniq (Classical.choose_spec hex)
theorem near_nil (F : List Int) (a y : Nat) : near [] F a y = false := rfl
/-- One look at a constraint: in both directions. -/
theorem near_step {n : Nat} {C : List Con} {F : List Int} {a i x y : Nat} {s : Bool} (hi : i < C.length) (hc : cg C i = ((x : Int), (y : Int), s)) (hx : x < n) (hy : y < n) :
    fi n (near (C.take (i + 1)) F a) =
      (let b1 := if s = true ∧ x = a ∧ F.getD y 0 = F.getD a 0 - 1 then min (fi n (near (C.take i) F a)) y else fi n (near (C.take i) F a)
       if s = true ∧ y = a ∧ F.getD x 0 = F.getD a 0 - 1 then min b1 x else b1) := by
  have hb : ∀ z, near (C.take (i + 1)) F a z = ((mustB (C.take i) a z || (s && (decide (x = a ∧ y = z) || decide (x = z ∧ y = a)))) && decide (F.getD z 0 = F.getD a 0 - 1)) := by
    intro z
    rw [near, mustB_succ hi, hc, linkB_at]
  let q1 : Nat → Bool := fun z => near (C.take i) F a z || (s && decide (x = a ∧ y = z) && decide (F.getD z 0 = F.getD a 0 - 1))
  have e1 : fi n q1 = if s = true ∧ x = a ∧ F.getD y 0 = F.getD a 0 - 1 then min (fi n (near (C.take i) F a)) y else fi n (near (C.take i) F a) := by
    split
    · rename_i h
      obtain ⟨rfl, rfl, h⟩ := h
      refine fi_put hy fun z _ => ?_
      show (_ || _) = _
      by_cases e : z = y
      · subst e; rw [decide_eq_true h]; simp
      · have : ¬ y = z := fun h => e h.symm
        simp [e, this]
    · rename_i h
      refine fi_congr fun z _ => ?_
      show (_ || _) = _
      cases s with
      | false => simp
      | true =>
        by_cases e : x = a ∧ y = z
        · obtain ⟨rfl, rfl⟩ := e
          have h : ¬ F.getD y 0 = F.getD x 0 - 1 := fun g => h ⟨rfl, rfl, g⟩
          rw [decide_eq_false h]; simp
        · rw [decide_eq_false e]; simp
  simp only
  rw [← e1]
  split
  · rename_i h
    obtain ⟨rfl, rfl, h⟩ := h
    refine fi_put hx fun z _ => ?_
    rw [hb]
    show _ = ((near (C.take i) F y z || _) || _)
    by_cases e : z = x
    · subst e; rw [decide_eq_true h]; simp
    · have : ¬ x = z := fun h => e h.symm
      rw [near]
      simp [e, this, Bool.and_or_distrib_right]
  · rename_i h
    refine fi_congr fun z _ => ?_
    rw [hb]
    show _ = (near (C.take i) F a z || _)
    rw [near]
    cases s with
    | false => simp
    | true =>
      by_cases e : x = z ∧ y = a
      · obtain ⟨rfl, rfl⟩ := e
        have h : ¬ F.getD x 0 = F.getD y 0 - 1 := fun g => h ⟨rfl, rfl, g⟩
        rw [decide_eq_false h]; simp
      · rw [decide_eq_false e]
        simp [Bool.and_or_distrib_right]
/-- The two items of a conflict are joined by a way. -/
theorem rch_rk {n : Nat} {C : List Con} {b x : Nat} (h : Rch n (mustB C) b x) : ∃ k, rk C b k x := by
  induction h with
  | refl => exact ⟨0, rfl⟩
  | tail _ _ _ hb ih =>
    obtain ⟨k, hk⟩ := ih
    exact ⟨k + 1, .inr ⟨_, hk, adjC_mustB.2 hb⟩⟩
theorem areCons_adj {n : Nat} {C : List Con} (h : areCons n C = true) : ∀ x y, adjC C x y → y < n := by
  rintro x y ⟨c, h1, _, h3⟩
  obtain ⟨_, _, hg⟩ := areCons_t h
  obtain ⟨g1, g2, g3⟩ := hg c h1
  omega
theorem conflict_at {n : Nat} {C : List Con} (h : 0 ≤ conflict n C) : areCons n C = true ∧ ∃ k : Nat, k < C.length ∧ conflict n C = (k : Int) ∧ ∃ x y : Nat, cg C k = ((x : Int), (y : Int), false) ∧ x < y ∧ y < n ∧ ∃ d, IsD C y x d := by
  rcases Bool.eq_false_or_eq_true (areCons n C) with ha | ha
  · rw [conflict_t ha] at h ⊢
    have hl := must_length ha
    obtain ⟨k, hk, e1, e2⟩ : ∃ k : Nat, k < C.length ∧ fidx (cfl (must n C)) C = (k : Int) ∧ cfl (must n C) (cg C k) = true := by
      unfold fidx at h ⊢
      cases hf : C.findIdx? (cfl (must n C)) with
      | none => rw [hf] at h; simp at h
      | some k =>
        obtain ⟨hk, g, _⟩ := List.findIdx?_eq_some_iff_getElem.1 hf
        exact ⟨k, hk, rfl, by simpa [cg, hk] using g⟩
    obtain ⟨x, y, s, hc, hxy, hyn⟩ := con_nat ha hk
    rw [hc, cfl_at] at e2
    simp only [Bool.and_eq_true, Bool.not_eq_true', decide_eq_true_eq] at e2
    obtain ⟨rfl, e2⟩ := e2
    refine ⟨ha, k, hk, e1, x, y, hc, hxy, by omega, ?_⟩
    rw [must_t ha] at e2
    have hr := (must_ok.iff y x (by omega) (by omega)).1 e2.symm
    obtain ⟨j, hj⟩ := rch_rk hr
    obtain ⟨d, _, hd⟩ := isD_of j hj
    exact ⟨d, hd⟩
  · rw [conflict_f ha] at h; omega
noncomputable def cchain (n : Int) (C : List Con) : List Int :=
  if 0 ≤ conflict n C then
    let c := cg C (conflict n C).toNat
    let F := farL n.toNat C c.2.1.toNat
    chn n.toNat C F (F.getD c.1.toNat 0).toNat c.1.toNat
  else []
end Go.Sh

/-
  A queue of items builds the list of distances: plain.
-/
namespace Go.Sh
set_option linter.unusedSimpArgs false
set_option linter.unusedVariables false
open Go Go.Proofs

theorem negs_succ (n : Nat) (O : List Int) : negs (n + 1) O = negs n O + if O.getD n 0 < 0 then 1 else 0 := by
  rw [negs, List.range_succ, List.countP_append]
  simp [negs]
theorem negs_set_ge {v : Int} {k : Nat} {O : List Int} : ∀ n, n ≤ k → negs n (O.set k v) = negs n O
  | 0, _ => rfl
  | n + 1, h => by
    rw [negs_succ, negs_succ, negs_set_ge n (by omega)]
    have : (O.set k v).getD n 0 = O.getD n 0 := by simp [List.getElem?_set, show ¬ k = n by omega]
    rw [this]
theorem negs_set {v : Int} {k : Nat} {O : List Int} (hv : 0 ≤ v) (h0 : O.getD k 0 < 0) (hk : k < O.length) : ∀ n, k < n → negs n (O.set k v) + 1 = negs n O
  | 0, h => by omega
  | n + 1, h => by
    rw [negs_succ, negs_succ]
    by_cases e : k = n
    · subst e
      rw [negs_set_ge k (Nat.le_refl _), if_pos h0]
      have : (O.set k v).getD k 0 = v := by simp [List.getElem?_set, hk]
      rw [this, if_neg (by omega)]
    · have := negs_set hv h0 hk n (by omega)
      have e2 : (O.set k v).getD n 0 = O.getD n 0 := by simp [List.getElem?_set, e]
      rw [e2]; omega
/-- Distances while q is looked at and Q waits. -/
structure Bfs (n : Nat) (C : List Con) (b q : Nat) (Q : List Nat) (F : List Int) : Prop where
  len : F.length = n
  val : ∀ x, x < n → F.getD x 0 = -1 ∨ ∃ d : Nat, F.getD x 0 = (d : Int) ∧ IsD C b x d
  fb : F.getD b 0 = 0
  qn : q < n
  q0 : 0 ≤ F.getD q 0
  qd : ∀ y ∈ Q, y < n ∧ F.getD q 0 ≤ F.getD y 0 ∧ F.getD y 0 ≤ F.getD q 0 + 1
  srt : Q.Pairwise fun x y => F.getD x 0 ≤ F.getD y 0
  cls : ∀ x, x < n → 0 ≤ F.getD x 0 → x ≠ q → x ∉ Q → ∀ y, adjC C x y → 0 ≤ F.getD y 0
  far : ∀ x, x < n → F.getD x 0 < 0 → ∀ e : Nat, (e : Int) ≤ F.getD q 0 → ¬ rk C b e x
theorem fset_at {F : List Int} {k : Nat} {v : Int} (hk : k < F.length) : (F.set k v).getD k 0 = v := by simp [List.getElem?_set, hk]
theorem fset_ne {F : List Int} {k x : Nat} {v : Int} (h : x ≠ k) : (F.set k v).getD x 0 = F.getD x 0 := by simp [List.getElem?_set, Ne.symm h]
theorem Bfs.start {n : Nat} {C : List Con} {b : Nat} (hb : b < n) : Bfs n C b b [] ((List.replicate n (-1)).set b 0) := by
  have hl : b < (List.replicate n (-1 : Int)).length := by simpa using hb
  have hr : ∀ x, x < n → x ≠ b → ((List.replicate n (-1)).set b 0).getD x 0 = (-1 : Int) := fun x hx h => by rw [fset_ne h]; simp [hx]
  refine ⟨by simp, fun x hx => ?_, fset_at hl, hb, by rw [fset_at hl]; omega, by simp, List.Pairwise.nil, fun x hx h0 hq _ => ?_, fun x hx h0 e he => ?_⟩
  · by_cases e : x = b
    · subst e; exact .inr ⟨0, fset_at hl, isD_zero.2 rfl⟩
    · exact .inl (hr x hx e)
  · have := hr x hx hq; omega
  · rw [fset_at hl] at he
    obtain rfl : e = 0 := by omega
    intro h
    have h : x = b := h
    subst h
    rw [fset_at hl] at h0; omega
theorem Bfs.put {n : Nat} {C : List Con} {b q : Nat} {Q : List Nat} {F : List Int} (h : Bfs n C b q Q F) {k : Nat} (hk : k < n) (h0 : F.getD k 0 < 0) (ha : adjC C q k) : Bfs n C b q (Q ++ [k]) (F.set k (F.getD q 0 + 1)) := by
  have hl := h.len
  have hkl : k < F.length := by omega
  have q0 := h.q0
  have hqk : q ≠ k := fun e => by subst e; omega
  have hbk : b ≠ k := fun e => by subst e; have := h.fb; omega
  have hQk : ∀ y ∈ Q, y ≠ k := fun y hy e => by subst e; have := h.qd y hy; omega
  have eq : (F.set k (F.getD q 0 + 1)).getD q 0 = F.getD q 0 := fset_ne hqk
  obtain ⟨d, hd, hD⟩ : ∃ d : Nat, F.getD q 0 = (d : Int) ∧ IsD C b q d := (h.val q h.qn).resolve_left (by omega)
  refine ⟨by simp [hl], fun x hx => ?_, by rw [fset_ne hbk, h.fb], h.qn, by rw [eq]; exact q0, fun y hy => ?_, ?_, fun x hx hx0 hxq hxQ y hy => ?_, fun x hx hx0 e he => ?_⟩
  · by_cases e : x = k
    · subst e
      rw [fset_at hkl]
      refine .inr ⟨d + 1, by omega, .inr ⟨q, hD.1, ha⟩, fun e he => h.far x hx h0 e (by omega)⟩
    · rw [fset_ne e]; exact h.val x hx
  · rw [eq]
    rcases List.mem_append.1 hy with hy | hy
    · rw [fset_ne (hQk y hy)]; exact h.qd y hy
    · obtain rfl : y = k := by simpa using hy
      rw [fset_at hkl]; omega
  · refine List.pairwise_append.2 ⟨?_, by simp, fun x hx y hy => ?_⟩
    · refine h.srt.imp_of_mem fun {x y} hx hy hxy => ?_
      rw [fset_ne (hQk x hx), fset_ne (hQk y hy)]; exact hxy
    · obtain rfl : y = k := by simpa using hy
      rw [fset_ne (hQk x hx), fset_at hkl]
      exact (h.qd x hx).2.2
  · have hxk : x ≠ k := fun e => hxQ (by simp [e])
    rw [fset_ne hxk] at hx0
    have := h.cls x hx hx0 hxq (fun g => hxQ (by simp [g])) y hy
    by_cases e : y = k
    · subst e; rw [fset_at hkl]; omega
    · rw [fset_ne e]; exact this
  · rw [eq] at he
    have hxk : x ≠ k := fun e => by subst e; rw [fset_at hkl] at hx0; omega
    rw [fset_ne hxk] at hx0
    exact h.far x hx hx0 e he
theorem Bfs.pop {n : Nat} {C : List Con} {b q q' : Nat} {Q : List Nat} {F : List Int} (ha : ∀ x y, adjC C x y → y < n) (h : Bfs n C b q (q' :: Q) F) (hq : ∀ y, adjC C q y → 0 ≤ F.getD y 0) : Bfs n C b q' Q F := by
  have q0 := h.q0
  obtain ⟨g1, g2, g3⟩ := h.qd q' (by simp)
  have hs := List.pairwise_cons.1 h.srt
  have hcl : ∀ x, x < n → 0 ≤ F.getD x 0 → x ≠ q' → x ∉ Q → ∀ y, adjC C x y → 0 ≤ F.getD y 0 := fun x hx hx0 hxq hxQ y hy => by
    by_cases e : x = q
    · subst e; exact hq y hy
    · exact h.cls x hx hx0 e (by simp [hxq, hxQ]) y hy
  refine ⟨h.len, h.val, h.fb, g1, by omega, fun y hy => ?_, hs.2, hcl, fun x hx hx0 e he hr => ?_⟩
  · have := h.qd y (by simp [hy])
    have := hs.1 y hy
    exact ⟨by omega, by omega, by omega⟩
  · by_cases hle : (e : Int) ≤ F.getD q 0
    · exact h.far x hx hx0 e hle hr
    · obtain ⟨d, hd, hD⟩ := isD_of e hr
      have hde : d = e := by
        by_cases g : (d : Int) ≤ F.getD q 0
        · exact absurd hD.1 (h.far x hx hx0 d g)
        · omega
      subst hde
      cases d with
      | zero => omega
      | succ d =>
        obtain ⟨y, k1, k2⟩ := isD_prev hD
        have hyn : y < n := ha x y (adjC_symm k2)
        have hFy : F.getD y 0 = (d : Int) := by
          rcases h.val y hyn with k3 | ⟨d', k3, k4⟩
          · exact absurd k1.1 (h.far y hyn (by omega) d (by omega))
          · rw [k3, isD_uniq k4 k1]
        have hyQ : y ∉ Q := fun g => by have := hs.1 y g; omega
        have := hcl y hyn (by omega) (fun g => by subst g; omega) hyQ x k2
        omega
theorem Bfs.done {n : Nat} {C : List Con} {b q : Nat} {F : List Int} (ha : ∀ x y, adjC C x y → y < n) (h : Bfs n C b q [] F) (hq : ∀ y, adjC C q y → 0 ≤ F.getD y 0) (hb : b < n) : FarL n C b F := by
  have hs : ∀ e x, rk C b e x → x < n ∧ 0 ≤ F.getD x 0 := by
    intro e
    induction e with
    | zero => intro x hx; have hx : x = b := hx; subst hx; exact ⟨hb, by rw [h.fb]; omega⟩
    | succ e ih =>
      rintro x (hx | ⟨y, hy, hyx⟩)
      · exact ih x hx
      · obtain ⟨y1, y2⟩ := ih y hy
        refine ⟨ha y x hyx, ?_⟩
        by_cases g : y = q
        · subst g; exact hq x hyx
        · exact h.cls y y1 y2 g (by simp) x hyx
  refine ⟨h.len, fun x hx => ?_⟩
  rcases h.val x hx with h1 | h2
  · exact .inl ⟨h1, fun d hd => by have := (hs d x hd).2; omega⟩
  · exact .inr h2
end Go.Sh

/-
  All items: of the program.
-/
namespace Go.Sh
set_option linter.unusedSimpArgs false
set_option linter.unusedVariables false
open Go Go.Proofs

def allI (k : Nat) : List Int := (List.range k).map fun i : Nat => (i : Int)
theorem allI_length (k : Nat) : (allI k).length = k := by simp [allI]
theorem allI_snoc (k : Nat) : ints (allI k) ++ [.val (.int .i64 (k : Int))] = ints (allI (k + 1)) := by simp [allI, ints, List.range_succ]
theorem allI_at {n k : Nat} (h : k < n) : (allI n).getD k 0 = (k : Int) := by simp [allI, h]

set_option maxHeartbeats 4000000 in
theorem Try.allItems_f (n : Nat) (h1 : 1 ≤ n) (h8 : n ≤ 8) : FCall Try.prog 90 [.val (.int .i64 n)] (FlatRes n 1 (ints (allI n))) := by
  refine FCall.of_body Try.func90 rfl (by kernel_rfl) (by simp [Try.ntmps90]) ?_
  refine SW_of_vc Try.mixed _ _ _ (by kernel_rfl) ?_
  simp (disch := omega) only [Try.ntmps90, Try.results90, go_sem, Nat.reduceLT, Nat.reduceLeDiff, Nat.reduceEqDiff, Nat.reduceAdd, Nat.reduceSub, Nat.reduceMul, reduceIte, ↓reduceIte, reduceCtorEq, Int.reduceToNat, Int.reduceLE, Int.reduceLT, Int.reduceNeg, Int.reduceSub, Int.reduceAdd, Int.reduceMul]
  refine LoopW.loop (fun p : Nat × Nat × Nat => ⟨ofL [(3, nlI p.2.1 (allI p.1)), (5, .val (.int .i64 n)), (6, .val (.int .i64 p.1))], hp (nlH p.2.1 (allI p.1)) p.2.2⟩)
    (fun p => p.1 ≤ n ∧ (p.1 ≠ 0 → p.2.1 < p.2.2)) (fun p => n - p.1) (0, 0, 0) ⟨by simp, fun h => absurd rfl h⟩ (Wk.ofH (by simp only [go_sem, ↓List.forall_mem_cons, List.not_mem_nil, false_implies, implies_true, and_true, true_and, and_self, Nat.reduceEqDiff, reduceIte, ↓reduceIte, ri_eq, Int.natCast_add, Int.cast_ofNat_Int, nlI_t (T := allI 0) rfl]; try simp) (by simp [nlH, allI]) (by simp [hp])) ?_
  rintro ⟨k, ob, nb⟩ ⟨hk, hob⟩
  simp only at hk hob
  have hrl := allI_length k
  have hsn := allI_snoc k
  have hl2 := allI_length (k + 1)
  have e2 : ∀ b, nlI b (allI (k + 1)) = .own b 0 (k + 1) (k + 1) 1 false := fun b => by rw [nlI_f (by omega), hl2]
  have e3 : ∀ b, nlH b (allI (k + 1)) = [(b, ⟨ints (allI (k + 1)), false⟩)] := fun b => nlH_f (by omega)
  refine SW_of_vc Try.mixed _ _ _ (by kernel_rfl) ?_
  by_cases hlt : k < n
  · by_cases hz : k = 0
    · have hkl : (allI k).length = 0 := by omega
      have e0 := nlI_t (b := ob) hkl
      have h0 := nlH_t (b := ob) hkl
      have hsn0 : [SV.val (.int .i64 (k : Int))] = ints (allI (k + 1)) := by rw [← hsn, List.length_eq_zero_iff.1 hkl]; rfl
      have e2z : ∀ b, nlI b (allI (k + 1)) = .own b 0 1 1 1 false := fun b => by
        have hk1 : k + 1 = 1 := by omega
        rw [e2, hk1]
      simp (disch := omega) only [Try.ntmps90, Try.results90, go_sem, Nat.reduceLT, Nat.reduceLeDiff, Nat.reduceEqDiff, Nat.reduceAdd, Nat.reduceSub, Nat.reduceMul, reduceIte, ↓reduceIte, reduceCtorEq, Int.reduceToNat, Int.reduceLE, Int.reduceLT, Int.reduceNeg, Int.reduceSub, Int.reduceAdd, Int.reduceMul, e0, h0]
      refine ⟨(k + 1, nb + 1, nb + 1 + 1), ⟨hlt, fun _ => by show nb + 1 < nb + 1 + 1; omega⟩, by show n - (k + 1) < n - k; omega, Wk.ofH (by simp only [go_sem, ↓List.forall_mem_cons, List.not_mem_nil, false_implies, implies_true, and_true, true_and, and_self, Nat.reduceEqDiff, reduceIte, ↓reduceIte, ri_eq, Int.natCast_add, Int.cast_ofNat_Int, e2z]; try simp) ?_ (Nat.le_refl _)⟩
      show ∀ q ∈ nlH (nb + 1) (allI (k + 1)), _
      refine nlH_in fun _ => ?_
      rw [← hsn0]; simp (disch := omega) only [hp_map, hmap_cons, if_pos, if_neg, ↓reduceIte]
    · have hkl : (allI k).length ≠ 0 := by omega
      have o2 := hob hz
      have e0 := nlI_f (b := ob) hkl
      have h0 := nlH_f (b := ob) hkl
      rw [hrl] at e0
      have hil : (ints (allI k)).length = k := by rw [ints_length, hrl]
      have hit : (ints (allI k)).take k = ints (allI k) := List.take_of_length_le (by omega)
      simp (disch := omega) only [Try.ntmps90, Try.results90, go_sem, Nat.reduceLT, Nat.reduceLeDiff, Nat.reduceEqDiff, Nat.reduceAdd, Nat.reduceSub, Nat.reduceMul, reduceIte, ↓reduceIte, reduceCtorEq, Int.reduceToNat, Int.reduceLE, Int.reduceLT, Int.reduceNeg, Int.reduceSub, Int.reduceAdd, Int.reduceMul, e0, h0, hil, hit, hsn]
      refine ⟨(k + 1, nb + 1, nb + 1 + 1), ⟨hlt, fun _ => by show nb + 1 < nb + 1 + 1; omega⟩, by show n - (k + 1) < n - k; omega, Wk.ofH (by simp only [go_sem, ↓List.forall_mem_cons, List.not_mem_nil, false_implies, implies_true, and_true, true_and, and_self, Nat.reduceEqDiff, reduceIte, ↓reduceIte, ri_eq, Int.natCast_add, Int.cast_ofNat_Int, e2]; try simp) ?_ (Nat.le_refl _)⟩
      show ∀ q ∈ nlH (nb + 1) (allI (k + 1)), _
      refine nlH_in fun _ => ?_
      simp (disch := omega) only [hp_map, hmap_cons, if_pos, if_neg, ↓reduceIte]
  · obtain rfl : k = n := by omega
    have hkl : (allI k).length ≠ 0 := by omega
    have e0 := nlI_f (b := ob) hkl
    rw [hrl] at e0
    have hm := nlH_map (b := ob) hkl
    simp (disch := omega) only [Try.ntmps90, Try.results90, go_sem, Nat.reduceLT, Nat.reduceLeDiff, Nat.reduceEqDiff, Nat.reduceAdd, Nat.reduceSub, Nat.reduceMul, reduceIte, ↓reduceIte, reduceCtorEq, Int.reduceToNat, Int.reduceLE, Int.reduceLT, Int.reduceNeg, Int.reduceSub, Int.reduceAdd, Int.reduceMul, e0]
    exact fin_ints hrl.symm (by rw [hp_map, hm])
theorem Try.allItems_one (n : Nat) (h1 : 1 ≤ n) (h8 : n ≤ 8) : FCall Try.prog 90 [.val (.int .i64 n)] (OneRes n 1 (ints (allI n))) := (Try.allItems_f n h1 h8).one
theorem Try.allItems_ok (n : Nat) (h1 : 1 ≤ n) (h8 : n ≤ 8) : PCall Try.prog 90 [.val (.int .i64 n)] (ri (allI n)) := (Try.allItems_one n h1 h8).pcall 2 (fun _ _ h => one_view h (allI_length n).symm)
end Go.Sh

/-
  The test of a step in a chain, and the least item that passes it: of the program.
-/
namespace Go.Sh
set_option linter.unusedSimpArgs false
set_option linter.unusedVariables false
open Go Go.Proofs

theorem mustM_row {n : Nat} {C : List Con} {x : Nat} (hx : x < n) : (mrow (mustM n C) x).length = n := (genM_sq n _).2 x hx
theorem mustM_at {n : Nat} {C : List Con} {x y : Nat} (hx : x < n) (hy : y < n) : mat (mustM n C) x y = bint (mustB C x y) := by rw [mustM, genM_at hx hy]

set_option maxHeartbeats 2000000 in
theorem Try.chainFn_ok (n : Nat) (C : List Con) (F : List Int) (k a : Nat) (hn : n ≤ 8) (hk : k < n) (ha : a < n) (hF : F.length = n) (hv : -1 ≤ F.getD a 0 ∧ F.getD a 0 ≤ 8) :
    PCall Try.prog 99 [.val (.int .i64 k), .rptr [rr (mustM n C)] 0, .rptr [.val (.int .i64 a)] 0, .rptr [ri F] 0] (.val (.bool (near C F a k))) := by
  refine FCall.pcall (R := fun r _ => r = .val (.bool (near C F a k))) ?_ 0 (by rintro r H rfl; exact view_bool)
  refine FCall.of_body Try.func99 rfl (by kernel_rfl) (by simp [Try.ntmps99]) ?_
  refine SW_of_vc Try.mixed _ _ _ (by kernel_rfl) ?_
  have hl := mustM_length n C
  have hr := mustM_row (C := C) ha
  have hm := mustM_at (C := C) ha hk
  have gm : (ints (mrow (mustM n C) a))[k]? = some (.val (.int .i64 (mat (mustM n C) a k))) := ints_get' hr hk
  have g1 : (ints F)[k]? = some (.val (.int .i64 (F.getD k 0))) := ints_get (by omega)
  have g2 : (ints F)[a]? = some (.val (.int .i64 (F.getD a 0))) := ints_get (by omega)
  have hil : (ints F).length = n := by rw [ints_length, hF]
  rw [hm] at gm
  rw [near]
  generalize F.getD k 0 = u at *
  generalize F.getD a 0 = v at *
  have b1 : bint true = 1 := by simp [bint]
  have b0 : bint false = 0 := by simp [bint]
  cases hmb : mustB C a k with
  | true =>
    rw [hmb, b1] at gm
    have gm1 := gm
    by_cases h : u = v - 1
    · simp (disch := omega) only [Try.ntmps99, Try.results99, go_sem, Nat.reduceLT, Nat.reduceLeDiff, Nat.reduceEqDiff, Nat.reduceAdd, Nat.reduceSub, Nat.reduceMul, reduceIte, ↓reduceIte, reduceCtorEq, Int.reduceToNat, Int.reduceLE, Int.reduceLT, Int.reduceNeg, Int.reduceSub, Int.reduceAdd, Int.reduceMul, rr_eq, rows_get, hl, hr, gm1, g1, g2, hil]
      exact Fin.val (by simp [h])
    · simp (disch := omega) only [Try.ntmps99, Try.results99, go_sem, Nat.reduceLT, Nat.reduceLeDiff, Nat.reduceEqDiff, Nat.reduceAdd, Nat.reduceSub, Nat.reduceMul, reduceIte, ↓reduceIte, reduceCtorEq, Int.reduceToNat, Int.reduceLE, Int.reduceLT, Int.reduceNeg, Int.reduceSub, Int.reduceAdd, Int.reduceMul, rr_eq, rows_get, hl, hr, gm1, g1, g2, hil]
      exact Fin.val (by simp [h])
  | false =>
    rw [hmb, b0] at gm
    have gm1 := gm
    simp (disch := omega) only [Try.ntmps99, Try.results99, go_sem, Nat.reduceLT, Nat.reduceLeDiff, Nat.reduceEqDiff, Nat.reduceAdd, Nat.reduceSub, Nat.reduceMul, reduceIte, ↓reduceIte, reduceCtorEq, Int.reduceToNat, Int.reduceLE, Int.reduceLT, Int.reduceNeg, Int.reduceSub, Int.reduceAdd, Int.reduceMul, rr_eq, rows_get, hl, hr, gm1, g1, g2, hil]
    exact Fin.val rfl

set_option maxHeartbeats 1000000 in
theorem Try.indexFuncI_ok (f : FuncId) (cap : List SV) (L : List Int) (pr : Nat → Bool) (m : Nat) (hL : L.length ≤ 1048576) (hcap : ∀ H fu, viewL H fu cap = some cap) (hm : m < L.length)
    (hf : ∀ k, k ≤ m → PCall Try.prog f (.val (.int .i64 (L.getD k 0)) :: cap) (.val (.bool (pr k)))) (h1 : ∀ i, i < m → pr i = false) (h2 : pr m = true) :
    PCall Try.prog 98 [ri L, .clos (.func f) [] cap] (.val (.int .i64 m)) := by
  refine FCall.pcall (R := fun x _ => x = .val (.int .i64 m)) ?_ 0 (by rintro r H rfl; exact view_int)
  refine FCall.of_body Try.func98 rfl (by kernel_rfl) (by simp [Try.ntmps98]) ?_
  refine SW_of_vc Try.mixed _ _ _ (by kernel_rfl) ?_
  simp (disch := omega) only [Try.ntmps98, Try.results98, go_sem, Nat.reduceLT, Nat.reduceLeDiff, Nat.reduceEqDiff, Nat.reduceAdd, Nat.reduceSub, Nat.reduceMul, reduceIte, ↓reduceIte, reduceCtorEq, Int.reduceToNat, Int.reduceLE, Int.reduceLT, Int.reduceNeg, Int.reduceSub, Int.reduceAdd, Int.reduceMul]
  refine LoopW.loop (fun k : Nat => ⟨ofL [(0, ri L), (1, .clos (.func f) [] cap), (7, .val (.int .i64 L.length)), (8, .val (.int .i64 k))], hp [] 0⟩) (fun k => k ≤ m) (fun k => L.length - k) 0 (by omega) (Wk.of (by simp only [go_sem, ↓List.forall_mem_cons, List.not_mem_nil, false_implies, implies_true, and_true, true_and, and_self, Nat.reduceEqDiff, reduceIte, ↓reduceIte, ri_eq, Int.natCast_add, Int.cast_ofNat_Int]; try simp) rfl) ?_
  intro k hk
  have hlt : k < L.length := by omega
  have gx : (ints L)[k]? = some (.val (.int .i64 (L.getD k 0))) := ints_get hlt
  have hil : (ints L).length = L.length := ints_length L
  have w := hf k hk
  refine SW_of_vc Try.mixed _ _ _ (by kernel_rfl) ?_
  by_cases he : k = m
  · subst he
    rw [h2] at w
    simp (disch := omega) only [Try.ntmps98, Try.results98, go_sem, Nat.reduceLT, Nat.reduceLeDiff, Nat.reduceEqDiff, Nat.reduceAdd, Nat.reduceSub, Nat.reduceMul, reduceIte, ↓reduceIte, reduceCtorEq, Int.reduceToNat, Int.reduceLE, Int.reduceLT, Int.reduceNeg, Int.reduceSub, Int.reduceAdd, Int.reduceMul, gx, hil]
    refine w.callV 1 (viewL_cons_of view_int (hcap _ _)) ?_
    simp (disch := omega) only [Try.ntmps98, Try.results98, go_sem, Nat.reduceLT, Nat.reduceLeDiff, Nat.reduceEqDiff, Nat.reduceAdd, Nat.reduceSub, Nat.reduceMul, reduceIte, ↓reduceIte, reduceCtorEq, Int.reduceToNat, Int.reduceLE, Int.reduceLT, Int.reduceNeg, Int.reduceSub, Int.reduceAdd, Int.reduceMul]
    exact Fin.val rfl
  · rw [h1 k (by omega)] at w
    simp (disch := omega) only [Try.ntmps98, Try.results98, go_sem, Nat.reduceLT, Nat.reduceLeDiff, Nat.reduceEqDiff, Nat.reduceAdd, Nat.reduceSub, Nat.reduceMul, reduceIte, ↓reduceIte, reduceCtorEq, Int.reduceToNat, Int.reduceLE, Int.reduceLT, Int.reduceNeg, Int.reduceSub, Int.reduceAdd, Int.reduceMul, gx, hil]
    refine w.callV 1 (viewL_cons_of view_int (hcap _ _)) ?_
    simp (disch := omega) only [Try.ntmps98, Try.results98, go_sem, Nat.reduceLT, Nat.reduceLeDiff, Nat.reduceEqDiff, Nat.reduceAdd, Nat.reduceSub, Nat.reduceMul, reduceIte, ↓reduceIte, reduceCtorEq, Int.reduceToNat, Int.reduceLE, Int.reduceLT, Int.reduceNeg, Int.reduceSub, Int.reduceAdd, Int.reduceMul]
    exact ⟨k + 1, by omega, by omega, Wk.of (by simp only [go_sem, ↓List.forall_mem_cons, List.not_mem_nil, false_implies, implies_true, and_true, true_and, and_self, Nat.reduceEqDiff, reduceIte, ↓reduceIte, ri_eq, Int.natCast_add, Int.cast_ofNat_Int]; try simp) rfl⟩
end Go.Sh

/-
  A chain of must-link constraints, of the program.
-/
namespace Go.Sh
set_option linter.unusedSimpArgs false
set_option linter.unusedVariables false
open Go Go.Proofs

def nlI8 (W : List Nat) : List Int := W.map fun x : Nat => (x : Int)

theorem nlI8_length (W : List Nat) : (nlI8 W).length = W.length := by simp [nlI8]
theorem nlI8_at {W : List Nat} {off q : Nat} {Q : List Nat} (h : W.drop off = q :: Q) : (ints (nlI8 W))[off]? = some (.val (.int .i64 (q : Int))) := by
  have : W[off]? = some q := by
    have := congrArg (·[0]?) h
    simpa using this
  simp [ints, nlI8, this]
theorem nlI8_view {W : List Nat} {off l : Nat} (h : off + l = W.length) : List.take l (List.drop off (ints (nlI8 W))) = ints (nlI8 (W.drop off)) := by
  rw [List.take_of_length_le (by simp [ints, nlI8]; omega)]
  simp [ints, nlI8]
theorem nlI8_snoc (W : List Nat) (k : Nat) : ints (nlI8 W) ++ [.val (.int .i64 (k : Int))] = ints (nlI8 (W ++ [k])) := by simp [ints, nlI8]
theorem xdel_skipQ {b x : Nat} {M : List (List Int)} {l : List Ent} (h : x < b ∨ b + M.length < x) : xdel (.mat b (mi M) :: l) x = .mat b (mi M) :: xdel l x := by
  rw [xdel, if_pos (by rw [mi_length]; exact h)]
theorem drop_one {W : List Nat} {off q : Nat} {Q : List Nat} (h : W.drop off = q :: Q) : W.drop (off + 1) = Q := by
  rw [← List.drop_drop, h]; rfl
def cH (n : Nat) (C : List Con) (F : List Int) (W : List Nat) (qb : Nat) : List Ent := [.blk qb ⟨ints (nlI8 W), false⟩, .blk (n + 1 + 1 + 1 + 1) ⟨[.own (n + 1 + 1 + 1) 0 n n 1 false], true⟩, .blk (n + 1 + 1 + 1) ⟨ints F, false⟩, .blk (n + 1) ⟨[.own 0 0 n n 1 false], true⟩, .mat 0 (mi (mustM n C))]

def dH (n : Nat) (C : List Con) (F : List Int) (a : Nat) (L : List Int) (ob ab : Nat) : List Ent := [.blk ab ⟨[.val (.int .i64 a)], true⟩, .blk ob ⟨ints L, false⟩, .blk (n + 1 + 1 + 1 + 1) ⟨[.own (n + 1 + 1 + 1) 0 n n 1 false], true⟩, .blk (n + 1 + 1 + 1) ⟨ints F, false⟩, .blk (n + 1) ⟨[.own 0 0 n n 1 false], true⟩, .mat 0 (mi (mustM n C))]

set_option maxRecDepth 20000 in
set_option maxHeartbeats 16000000 in
theorem Try.implChain_f (n : Nat) (C : List Con) (hC : areCons n C = true) (k x y : Nat) (hk : k < C.length) (hcf : conflict n C = (k : Int)) (hc : cg C k = ((x : Int), (y : Int), false)) (hxy : x < y) (hy : y < n) (hd : ∃ d, IsD C y x d) :
    FCall Try.prog 27 [.val (.int .i64 n), rc C] (FlatRes (chn n C (farL n C y) ((farL n C y).getD x 0).toNat x).length 1 (ints (chn n C (farL n C y) ((farL n C y).getD x 0).toNat x))) := by
  obtain ⟨⟨hn1, hn8⟩, hCl, hCc⟩ := areCons_t hC
  have wF := Try.implFind_ok n C (by omega)
  rw [hcf] at wF
  obtain ⟨q1, q2, q3, q4⟩ := cons_of hk hc
  have hlm := mustM_length n C
  have hadj := areCons_adj hC
  have hn1' : 1 ≤ n := by omega
  have hneg : negs n ((List.replicate n (-1)).set y 0) + 1 ≤ n := by
    have h1 : y < (List.replicate n (-1 : Int)).length := by simpa using hy
    have h2 := negs_set (v := 0) (k := y) (O := List.replicate n (-1)) (by omega) (by simp [hy]) h1 n hy
    have h3 : negs n (List.replicate n (-1)) ≤ n := by
      have := List.countP_le_length (p := fun x => decide ((List.replicate n (-1 : Int)).getD x 0 < 0)) (l := List.range n)
      simpa [negs] using this
    omega
  refine FCall.of_body Try.func27 rfl (by kernel_rfl) (by simp [Try.ntmps27]) ?_
  refine SW_of_vc Try.mixed _ _ _ (by kernel_rfl) ?_
  simp (disch := omega) only [Try.ntmps27, Try.results27, go_sem, Nat.reduceLT, Nat.reduceLeDiff, Nat.reduceEqDiff, Nat.reduceAdd, Nat.reduceSub, Nat.reduceMul, reduceIte, ↓reduceIte, reduceCtorEq, Int.reduceToNat, Int.reduceLE, Int.reduceLT, Int.reduceNeg, Int.reduceSub, Int.reduceAdd, Int.reduceMul, rc]
  refine wF.callV 0 (viewL_cons_of (view_int) (viewL_cons_of (view_row) viewL_nil_of)) ?_
  simp (disch := omega) only [Try.ntmps27, Try.results27, go_sem, Nat.reduceLT, Nat.reduceLeDiff, Nat.reduceEqDiff, Nat.reduceAdd, Nat.reduceSub, Nat.reduceMul, reduceIte, ↓reduceIte, reduceCtorEq, Int.reduceToNat, Int.reduceLE, Int.reduceLT, Int.reduceNeg, Int.reduceSub, Int.reduceAdd, Int.reduceMul, rc]
  refine (Try.mustMatrix_f n C hC).mat.callMat (mi_vals _) 0 (viewL_cons_of (view_int) (viewL_cons_of (view_row) viewL_nil_of)) ?_
  simp (disch := omega) only [Try.ntmps27, Try.results27, go_sem, Nat.reduceLT, Nat.reduceLeDiff, Nat.reduceEqDiff, Nat.reduceAdd, Nat.reduceSub, Nat.reduceMul, reduceIte, ↓reduceIte, reduceCtorEq, Int.reduceToNat, Int.reduceLE, Int.reduceLT, Int.reduceNeg, Int.reduceSub, Int.reduceAdd, Int.reduceMul, rc, hlm]
  refine (Try.repeat_one n (-1) (by omega) (by omega)).callOne (ints_vals _) 2 (viewL_cons_of (view_own (L := [-1]) (e2 := false) (by rw [hx_map, xmap_blk, if_pos rfl]; rfl) rfl) (viewL_cons_of (view_int) viewL_nil_of)) ?_
  have hil : (ints (List.replicate n (-1))).length = n := by simp [ints]
  have hset : (ints (List.replicate n (-1))).set y (.val (.int .i64 0)) = ints ((List.replicate n (-1)).set y 0) := by simp [ints]
  simp (disch := omega) only [Try.ntmps27, Try.results27, go_sem, Nat.reduceLT, Nat.reduceLeDiff, Nat.reduceEqDiff, Nat.reduceAdd, Nat.reduceSub, Nat.reduceMul, reduceIte, ↓reduceIte, reduceCtorEq, Int.reduceToNat, Int.reduceLE, Int.reduceLT, Int.reduceNeg, Int.reduceSub, Int.reduceAdd, Int.reduceMul, rc, hlm, q1, q2, q3, hil, hset]
  refine LoopW.loop (fun p : List Nat × Nat × Nat × List Int × Nat × Nat => ⟨ofL [(0, .val (.int .i64 n)), (1, rc C), (5, .val (.int .i64 k)), (6, .optr (n + 1) 0), (7, .optr (n + 1 + 1 + 1 + 1) 0), (8, .own p.2.2.2.2.1 p.2.1 p.2.2.1 p.2.2.1 1 false)], hx (cH n C p.2.2.2.1 p.1 p.2.2.2.2.1) p.2.2.2.2.2⟩)
    (fun p => p.2.1 + p.2.2.1 = p.1.length ∧ p.2.2.1 ≤ n ∧ n + 1 + 1 + 1 + 1 < p.2.2.2.2.1 ∧ p.2.2.2.2.1 < p.2.2.2.2.2 ∧ negs n p.2.2.2.1 + p.2.2.1 ≤ n ∧ ((p.1.drop p.2.1 = [] ∧ FarL n C y p.2.2.2.1) ∨ ∃ q Q, p.1.drop p.2.1 = q :: Q ∧ Bfs n C y q Q p.2.2.2.1)) (fun p => negs n p.2.2.2.1 + p.2.2.1) ([y], 0, 1, (List.replicate n (-1)).set y 0, n + 1 + 1 + 1 + 1 + 1, n + 1 + 1 + 1 + 1 + 1 + 1)
    ⟨by simp, hn1', by show n + 1 + 1 + 1 + 1 < n + 1 + 1 + 1 + 1 + 1; omega, by show n + 1 + 1 + 1 + 1 + 1 < n + 1 + 1 + 1 + 1 + 1 + 1; omega, hneg, .inr ⟨y, [], rfl, .start hy⟩⟩
    (Wk.ofX (by simp only [go_sem, ↓List.forall_mem_cons, List.not_mem_nil, false_implies, implies_true, and_true, true_and, and_self, Nat.reduceEqDiff, reduceIte, ↓reduceIte, ri_eq, Int.natCast_add, Int.cast_ofNat_Int, rc]; try simp) (by simp only [cH, List.forall_mem_cons]; exact ⟨by simp [EntIn, hx_map, xmap_blk, nlI8, ints], by simp [EntIn, hx_map, xmap_blk], by simp [EntIn, hx_map, xmap_blk], by simp [EntIn, hx_map, xmap_blk], by repeat (first | exact EntIn.self | refine EntIn.skipM ?_ (by simp only [mi_length]; omega)), by simp⟩) (Nat.le_refl _)) ?_
  clear hil hset wF
  rintro ⟨W, off, l, F, qb, nb⟩ ⟨hol, hln, hq1, hq2, hng, hI⟩
  simp only at hol hln hq1 hq2 hng hI
  refine SW_of_vc Try.mixed _ _ _ (by kernel_rfl) ?_
  rcases hI with ⟨hW, hF⟩ | ⟨q, Q, hW, hB⟩
  · have hl0 : l = 0 := by
      have := congrArg List.length hW
      simp at this; omega
    subst hl0
    rw [cH]
    simp (disch := omega) only [Try.ntmps27, Try.results27, go_sem, Nat.reduceLT, Nat.reduceLeDiff, Nat.reduceEqDiff, Nat.reduceAdd, Nat.reduceSub, Nat.reduceMul, reduceIte, ↓reduceIte, reduceCtorEq, Int.reduceToNat, Int.reduceLE, Int.reduceLT, Int.reduceNeg, Int.reduceSub, Int.reduceAdd, Int.reduceMul, rc, q1, q2, q3]
    have hfe := hF.eq
    obtain ⟨d, hd⟩ := hd
    have hxn : x < n := by omega
    have hFd : F.getD x 0 = (d : Int) := by
      rcases hF.2 x hxn with ⟨_, h2⟩ | ⟨e, h1, h2⟩
      · exact absurd hd.1 (h2 d)
      · rw [h1, isD_uniq h2 hd]
    rw [← hfe, hFd, Int.toNat_natCast]
    have hFl := hF.1
    have hil : (ints F).length = n := by rw [ints_length, hFl]
    have hdn := isD_lt hy hadj hd
    have wAll := Try.allItems_one n hn1' (by omega)
    refine LoopW.loop (fun p : Nat × Nat × List Int × Nat × Nat × Nat => ⟨ofL [(0, .val (.int .i64 n)), (1, rc C), (5, .val (.int .i64 k)), (6, .optr (n + 1) 0), (7, .optr (n + 1 + 1 + 1 + 1) 0), (11, .own p.2.2.2.1 0 p.2.2.1.length p.2.2.1.length 1 false), (12, .optr p.2.2.2.2.1 0)], hx (dH n C F p.1 p.2.2.1 p.2.2.2.1 p.2.2.2.2.1) p.2.2.2.2.2⟩)
      (fun p => p.1 < n ∧ F.getD p.1 0 = (p.2.1 : Int) ∧ p.2.1 < n ∧ p.2.2.1 ++ (chn n C F p.2.1 p.1).tail = chn n C F d x ∧ p.2.2.1.length ≤ n + 1 - p.2.1 ∧ n + 1 + 1 + 1 + 1 < p.2.2.2.1 ∧ p.2.2.2.1 < p.2.2.2.2.1 ∧ p.2.2.2.2.1 < p.2.2.2.2.2) (fun p => p.2.1) (x, d, [(x : Int)], nb, nb + 1, nb + 1 + 1)
      ⟨hxn, hFd, hdn, by cases d <;> rfl, by simp; omega, by show n + 1 + 1 + 1 + 1 < nb; omega, by show nb < nb + 1; omega, by show nb + 1 < nb + 1 + 1; omega⟩
      (Wk.ofX (by simp only [go_sem, ↓List.forall_mem_cons, List.not_mem_nil, false_implies, implies_true, and_true, true_and, and_self, Nat.reduceEqDiff, reduceIte, ↓reduceIte, ri_eq, Int.natCast_add, Int.cast_ofNat_Int, rc]; try simp) (by simp only [dH, List.forall_mem_cons]; exact ⟨(by simp (disch := omega) only [EntIn, hx_map, xmap_blk, xmap_skipI, if_pos, if_neg, ↓reduceIte, nlI8, ints, List.map_cons, List.map_nil]), (by simp (disch := omega) only [EntIn, hx_map, xmap_blk, xmap_skipI, if_pos, if_neg, ↓reduceIte, nlI8, ints, List.map_cons, List.map_nil]), (by simp (disch := omega) only [EntIn, hx_map, xmap_blk, xmap_skipI, if_pos, if_neg, ↓reduceIte, nlI8, ints, List.map_cons, List.map_nil]), (by simp (disch := omega) only [EntIn, hx_map, xmap_blk, xmap_skipI, if_pos, if_neg, ↓reduceIte, nlI8, ints, List.map_cons, List.map_nil]), (by simp (disch := omega) only [EntIn, hx_map, xmap_blk, xmap_skipI, if_pos, if_neg, ↓reduceIte, nlI8, ints, List.map_cons, List.map_nil]), (by repeat (first | exact EntIn.self | refine EntIn.skipM ?_ (by simp only [mi_length]; omega))), by simp⟩) (Nat.le_refl _)) ?_
    clear hFd hd hxn hdn
    rintro ⟨a, e, L, ob, ab, nb⟩ ⟨ha, hFe, hen, hL, hLl, ho1, ho2, ho3⟩
    simp only at ha hFe hen hL hLl ho1 ho2 ho3
    refine SW_of_vc Try.mixed _ _ _ (by kernel_rfl) ?_
    cases e with
    | zero =>
      have hay : a = y := by
        rcases hF.2 a ha with ⟨h1, _⟩ | ⟨e, h1, h2⟩
        · omega
        · obtain rfl : e = 0 := by omega
          exact isD_zero.1 h2
      subst hay
      rw [dH]
      simp (disch := omega) only [Try.ntmps27, Try.results27, go_sem, Nat.reduceLT, Nat.reduceLeDiff, Nat.reduceEqDiff, Nat.reduceAdd, Nat.reduceSub, Nat.reduceMul, reduceIte, ↓reduceIte, reduceCtorEq, Int.reduceToNat, Int.reduceLE, Int.reduceLT, Int.reduceNeg, Int.reduceSub, Int.reduceAdd, Int.reduceMul, rc, q1, q2, q3]
      rw [chn, List.tail_cons, List.append_nil] at hL
      rw [← hL]
      exact fin_ints rfl (by first | rfl | (simp (disch := omega) only [hx_map, hp_map, xmap_blk, hmap_cons, xmap_skipI, xmap_nil, if_pos, if_neg, ↓reduceIte]; try rfl))
    | succ e =>
      have hay : a ≠ y := by
        rintro rfl
        rcases hF.2 a ha with ⟨h1, _⟩ | ⟨e, h1, h2⟩
        · omega
        · have := isD_uniq h2 (isD_zero.2 rfl); omega
      have hk := hF.pkn hadj ha hFe
      have hp0 : pkn n C F a = fi n (near C F a) := rfl
      rw [hp0] at hk
      rw [chn, List.tail_cons, hp0] at hL
      have hmin := fun z (h : z < fi n (near C F a)) => fi_min h
      have hat := fi_at hk.1
      generalize fi n (near C F a) = B at *
      have hlA := allI_length n
      have hil2 : (ints L).length = L.length := ints_length L
      have hit : (ints L).take L.length = ints L := List.take_of_length_le (by omega)
      have hsn : ints L ++ [.val (.int .i64 (B : Int))] = ints (L ++ [(B : Int)]) := by simp [ints]
      have wI := Try.indexFuncI_ok 99 [.rptr [rr (mustM n C)] 0, .rptr [.val (.int .i64 a)] 0, .rptr [ri F] 0] (allI n) (near C F a) B (by omega)
        (fun _ _ => viewL_cons_of view_rptr (viewL_cons_of view_rptr (viewL_cons_of view_rptr viewL_nil_of))) (by omega)
        (fun z hz => by
          rw [allI_at (by omega)]
          exact Try.chainFn_ok n C F z a (by omega) (by omega) ha hFl (by omega)) hmin hat
      rw [dH]
      simp (disch := omega) only [Try.ntmps27, Try.results27, go_sem, Nat.reduceLT, Nat.reduceLeDiff, Nat.reduceEqDiff, Nat.reduceAdd, Nat.reduceSub, Nat.reduceMul, reduceIte, ↓reduceIte, reduceCtorEq, Int.reduceToNat, Int.reduceLE, Int.reduceLT, Int.reduceNeg, Int.reduceSub, Int.reduceAdd, Int.reduceMul, rc, q1, q2, q3]
      refine wAll.callOne (ints_vals _) 0 (viewL_cons_of (view_int) viewL_nil_of) ?_
      simp (disch := omega) only [Try.ntmps27, Try.results27, go_sem, Nat.reduceLT, Nat.reduceLeDiff, Nat.reduceEqDiff, Nat.reduceAdd, Nat.reduceSub, Nat.reduceMul, reduceIte, ↓reduceIte, reduceCtorEq, Int.reduceToNat, Int.reduceLE, Int.reduceLT, Int.reduceNeg, Int.reduceSub, Int.reduceAdd, Int.reduceMul, rc]
      refine wI.callV 5 (viewL_cons_of (view_own (L := allI n) (e2 := false) (by first | rfl | (simp (disch := omega) only [hx_map, hp_map, xmap_blk, hmap_cons, xmap_skipI, xmap_nil, if_pos, if_neg, ↓reduceIte]; try rfl)) hlA.symm) (viewL_cons_of (view_clos (viewL_cons_of (view_optr (e := true) (cs := [.own 0 0 n n 1 false]) (by first | rfl | (simp (disch := omega) only [hx_map, hp_map, xmap_blk, hmap_cons, xmap_skipI, xmap_nil, if_pos, if_neg, ↓reduceIte]; try rfl)) (viewL_cons_of (view_mi (by repeat (first | exact EntIn.self | refine EntIn.skipM ?_ (by simp only [mi_length]; omega))) hlm.symm) viewL_nil_of))
        (viewL_cons_of (view_optr (e := true) (cs := [.val (.int .i64 a)]) (by first | rfl | (simp (disch := omega) only [hx_map, hp_map, xmap_blk, hmap_cons, xmap_skipI, xmap_nil, if_pos, if_neg, ↓reduceIte]; try rfl)) (viewL_cons_of view_int viewL_nil_of)) (viewL_cons_of (view_optr (e := true) (cs := [.own (n + 1 + 1 + 1) 0 n n 1 false]) (by first | rfl | (simp (disch := omega) only [hx_map, hp_map, xmap_blk, hmap_cons, xmap_skipI, xmap_nil, if_pos, if_neg, ↓reduceIte]; try rfl)) (viewL_cons_of (view_own (L := F) (e2 := false) (by first | rfl | (simp (disch := omega) only [hx_map, hp_map, xmap_blk, hmap_cons, xmap_skipI, xmap_nil, if_pos, if_neg, ↓reduceIte]; try rfl)) hFl.symm) viewL_nil_of)) viewL_nil_of)))) viewL_nil_of)) ?_
      simp (disch := omega) only [Try.ntmps27, Try.results27, go_sem, Nat.reduceLT, Nat.reduceLeDiff, Nat.reduceEqDiff, Nat.reduceAdd, Nat.reduceSub, Nat.reduceMul, reduceIte, ↓reduceIte, reduceCtorEq, Int.reduceToNat, Int.reduceLE, Int.reduceLT, Int.reduceNeg, Int.reduceSub, Int.reduceAdd, Int.reduceMul, rc, hil2, hit, hsn, xdel_skipQ, xdel_nil]
      have hl3 : (L ++ [(B : Int)]).length = L.length + 1 := by simp
      refine ⟨(B, e, L ++ [(B : Int)], nb + 1 + 1, nb + 1 + 1 + 1, nb + 1 + 1 + 1 + 1), ⟨hk.1, hk.2.1, by show e < n; omega, ?_, by show (L ++ [(B : Int)]).length ≤ n + 1 - e; omega, by show n + 1 + 1 + 1 + 1 < nb + 1 + 1; omega, by show nb + 1 + 1 < nb + 1 + 1 + 1; omega, by show nb + 1 + 1 + 1 < nb + 1 + 1 + 1 + 1; omega⟩, by show e < e + 1; omega, Wk.ofX (by simp only [go_sem, ↓List.forall_mem_cons, List.not_mem_nil, false_implies, implies_true, and_true, true_and, and_self, Nat.reduceEqDiff, reduceIte, ↓reduceIte, ri_eq, Int.natCast_add, Int.cast_ofNat_Int, rc, hl3]; try simp) (by simp only [dH, List.forall_mem_cons]; exact ⟨(by simp (disch := omega) only [EntIn, hx_map, xmap_blk, xmap_skipI, if_pos, if_neg, ↓reduceIte, nlI8, ints, List.map_cons, List.map_nil]), (by simp (disch := omega) only [EntIn, hx_map, xmap_blk, xmap_skipI, if_pos, if_neg, ↓reduceIte, nlI8, ints, List.map_cons, List.map_nil]), (by simp (disch := omega) only [EntIn, hx_map, xmap_blk, xmap_skipI, if_pos, if_neg, ↓reduceIte, nlI8, ints, List.map_cons, List.map_nil]), (by simp (disch := omega) only [EntIn, hx_map, xmap_blk, xmap_skipI, if_pos, if_neg, ↓reduceIte, nlI8, ints, List.map_cons, List.map_nil]), (by simp (disch := omega) only [EntIn, hx_map, xmap_blk, xmap_skipI, if_pos, if_neg, ↓reduceIte, nlI8, ints, List.map_cons, List.map_nil]), (by repeat (first | exact EntIn.self | refine EntIn.skipM ?_ (by simp only [mi_length]; omega))), by simp⟩) (Nat.le_refl _)⟩
      show L ++ [(B : Int)] ++ (chn n C F e B).tail = _
      rw [← hL]
      cases e <;> simp [chn]
  · have hl1 : 0 < l := by
      have := congrArg List.length hW
      simp at this; omega
    have gq := nlI8_at hW
    have hqn := hB.qn
    have hrow := mustM_row (C := C) hqn
    have hiw : (ints (nlI8 W)).length = W.length := by rw [ints_length, nlI8_length]
    rw [cH]
    simp (disch := omega) only [Try.ntmps27, Try.results27, go_sem, Nat.reduceLT, Nat.reduceLeDiff, Nat.reduceEqDiff, Nat.reduceAdd, Nat.reduceSub, Nat.reduceMul, reduceIte, ↓reduceIte, reduceCtorEq, Int.reduceToNat, Int.reduceLE, Int.reduceLT, Int.reduceNeg, Int.reduceSub, Int.reduceAdd, Int.reduceMul, rc, hlm, outerB_getI, xmap_skipI, xmap_rowI, gq, hiw, hrow]
    have hjj : ∀ j, j < n → (ints (mrow (mustM n C) q))[j]? = some (.val (.int .i64 (bint (mustB C q j)))) := fun j hj => by
      rw [← mustM_at hqn hj]; exact ints_get' hrow hj
    have hofs : W.drop off = q :: W.drop (off + 1) := by rw [drop_one hW, hW]
    rw [← drop_one hW] at hB
    refine LoopW.loop (fun p : Nat × List Nat × Nat × Nat × List Int × Nat × Nat => ⟨ofL [(0, .val (.int .i64 n)), (1, rc C), (5, .val (.int .i64 k)), (6, .optr (n + 1) 0), (7, .optr (n + 1 + 1 + 1 + 1) 0), (8, .own p.2.2.2.2.2.1 p.2.2.1 p.2.2.2.1 p.2.2.2.1 1 false), (47, .own (1 + q) 0 n n 1 false), (48, .val (.int .i64 n)), (49, .val (.int .i64 p.1))], hx (cH n C p.2.2.2.2.1 p.2.1 p.2.2.2.2.2.1) p.2.2.2.2.2.2⟩)
      (fun p => p.1 ≤ n ∧ p.2.2.1 + p.2.2.2.1 = p.2.1.length ∧ 0 < p.2.2.2.1 ∧ n + 1 + 1 + 1 + 1 < p.2.2.2.2.2.1 ∧ p.2.2.2.2.2.1 < p.2.2.2.2.2.2 ∧ negs n p.2.2.2.2.1 + p.2.2.2.1 = negs n F + l ∧ p.2.1.drop p.2.2.1 = q :: p.2.1.drop (p.2.2.1 + 1) ∧ Bfs n C y q (p.2.1.drop (p.2.2.1 + 1)) p.2.2.2.2.1 ∧ ∀ z, z < p.1 → mustB C q z = true → 0 ≤ p.2.2.2.2.1.getD z 0) (fun p => n - p.1) (0, W, off, l, F, qb, nb)
      ⟨by simp, hol, hl1, hq1, hq2, rfl, hofs, hB, fun z hz => absurd hz (by simp)⟩
      (Wk.ofX (by simp only [go_sem, ↓List.forall_mem_cons, List.not_mem_nil, false_implies, implies_true, and_true, true_and, and_self, Nat.reduceEqDiff, reduceIte, ↓reduceIte, ri_eq, Int.natCast_add, Int.cast_ofNat_Int, rc]; try simp) (by simp only [cH, List.forall_mem_cons]; exact ⟨(by simp (disch := omega) only [EntIn, hx_map, xmap_blk, xmap_skipI, if_pos, if_neg, ↓reduceIte, nlI8, ints, List.map_cons, List.map_nil]), (by simp (disch := omega) only [EntIn, hx_map, xmap_blk, xmap_skipI, if_pos, if_neg, ↓reduceIte, nlI8, ints, List.map_cons, List.map_nil]), (by simp (disch := omega) only [EntIn, hx_map, xmap_blk, xmap_skipI, if_pos, if_neg, ↓reduceIte, nlI8, ints, List.map_cons, List.map_nil]), (by simp (disch := omega) only [EntIn, hx_map, xmap_blk, xmap_skipI, if_pos, if_neg, ↓reduceIte, nlI8, ints, List.map_cons, List.map_nil]), (by repeat (first | exact EntIn.self | refine EntIn.skipM ?_ (by simp only [mi_length]; omega))), by simp⟩) (Nat.le_refl _)) ?_
    generalize hN : negs n F + l = N at *
    clear hB hofs hW hiw gq hol hl1 hq1 hq2 hln hN
    clear W off l F qb nb Q
    rintro ⟨j, W, off, l, F, qb, nb⟩ ⟨hj, hol, hl1, hq1, hq2, hN, hW, hB, hz⟩
    simp only at hj hol hl1 hq1 hq2 hN hW hB hz
    have gq := nlI8_at hW
    have hiw : (ints (nlI8 W)).length = W.length := by rw [ints_length, nlI8_length]
    have hFl := hB.len
    have hilF : (ints F).length = n := by rw [ints_length, hFl]
    refine SW_of_vc Try.mixed _ _ _ (by kernel_rfl) ?_
    by_cases hlt : j < n
    · have gj := hjj j hlt
      have gF : (ints F)[j]? = some (.val (.int .i64 (F.getD j 0))) := ints_get (by omega)
      have gFq : (ints F)[q]? = some (.val (.int .i64 (F.getD q 0))) := ints_get (by omega)
      have b1 : bint true = 1 := by simp [bint]
      have b0 : bint false = 0 := by simp [bint]
      cases hmb : mustB C q j with
      | false =>
        rw [hmb, b0] at gj
        rw [cH]
        simp (disch := omega) only [Try.ntmps27, Try.results27, go_sem, Nat.reduceLT, Nat.reduceLeDiff, Nat.reduceEqDiff, Nat.reduceAdd, Nat.reduceSub, Nat.reduceMul, reduceIte, ↓reduceIte, reduceCtorEq, Int.reduceToNat, Int.reduceLE, Int.reduceLT, Int.reduceNeg, Int.reduceSub, Int.reduceAdd, Int.reduceMul, rc, hlm, xmap_skipI, xmap_rowI, gj, hrow, hilF]
        exact ⟨(j + 1, W, off, l, F, qb, nb), ⟨hlt, hol, hl1, hq1, hq2, hN, hW, hB, fun z hz2 hz3 => by
          by_cases e : z = j
          · subst e; rw [hmb] at hz3; cases hz3
          · exact hz z (by omega) hz3⟩, by show n - (j + 1) < n - j; omega, Wk.ofX (by simp only [go_sem, ↓List.forall_mem_cons, List.not_mem_nil, false_implies, implies_true, and_true, true_and, and_self, Nat.reduceEqDiff, reduceIte, ↓reduceIte, ri_eq, Int.natCast_add, Int.cast_ofNat_Int, rc]; try simp) (by simp only [cH, List.forall_mem_cons]; exact ⟨(by simp (disch := omega) only [EntIn, hx_map, xmap_blk, xmap_skipI, if_pos, if_neg, ↓reduceIte, nlI8, ints, List.map_cons, List.map_nil]), (by simp (disch := omega) only [EntIn, hx_map, xmap_blk, xmap_skipI, if_pos, if_neg, ↓reduceIte, nlI8, ints, List.map_cons, List.map_nil]), (by simp (disch := omega) only [EntIn, hx_map, xmap_blk, xmap_skipI, if_pos, if_neg, ↓reduceIte, nlI8, ints, List.map_cons, List.map_nil]), (by simp (disch := omega) only [EntIn, hx_map, xmap_blk, xmap_skipI, if_pos, if_neg, ↓reduceIte, nlI8, ints, List.map_cons, List.map_nil]), (by repeat (first | exact EntIn.self | refine EntIn.skipM ?_ (by simp only [mi_length]; omega))), by simp⟩) (Nat.le_refl _)⟩
      | true =>
        rw [hmb, b1] at gj
        by_cases hneg : F.getD j 0 < 0
        · obtain ⟨dq, hdq, hDq⟩ : ∃ d : Nat, F.getD q 0 = (d : Int) ∧ IsD C y q d := (hB.val q hB.qn).resolve_left (by have := hB.q0; omega)
          have hdn := isD_lt hy hadj hDq
          have hput := hB.put hlt hneg (adjC_mustB.2 hmb)
          have hns := negs_set (v := F.getD q 0 + 1) (by omega) hneg (by omega) n hlt
          have hit := nlI8_view hol
          have hsn := nlI8_snoc (W.drop off) j
          have hst : (ints F).set j (.val (.int .i64 (F.getD q 0 + 1))) = ints (F.set j (F.getD q 0 + 1)) := by simp [ints]
          have hlW := ints_length (nlI8 W)
          have hW2 : (W.drop off ++ [j]).drop 1 = W.drop (off + 1) ++ [j] := by rw [hW]; rfl
          have hl2 : (W.drop off ++ [j]).length = l + 1 := by simp; omega
          rw [hdq] at gFq hst hput hns
          rw [cH]
          simp (disch := omega) only [Try.ntmps27, Try.results27, go_sem, Nat.reduceLT, Nat.reduceLeDiff, Nat.reduceEqDiff, Nat.reduceAdd, Nat.reduceSub, Nat.reduceMul, reduceIte, ↓reduceIte, reduceCtorEq, Int.reduceToNat, Int.reduceLE, Int.reduceLT, Int.reduceNeg, Int.reduceSub, Int.reduceAdd, Int.reduceMul, rc, hlm, xmap_skipI, xmap_rowI, gj, hrow, hilF, gF, gFq, gq, hiw, hst, hit, hsn, xset_skipI, xdel_blk, xdel_skipQ]
          refine ⟨(j + 1, W.drop off ++ [j], 0, l + 1, F.set j ((dq : Int) + 1), nb + 1, nb + 1 + 1), ⟨hlt, by show 0 + (l + 1) = (W.drop off ++ [j]).length; omega, by show 0 < l + 1; omega, by show n + 1 + 1 + 1 + 1 < nb + 1; omega, by show nb + 1 < nb + 1 + 1; omega, by show negs n (F.set j ((dq : Int) + 1)) + (l + 1) = N; omega, ?_, ?_, fun z hz2 hz3 => ?_⟩, by show n - (j + 1) < n - j; omega, Wk.ofX (by simp only [go_sem, ↓List.forall_mem_cons, List.not_mem_nil, false_implies, implies_true, and_true, true_and, and_self, Nat.reduceEqDiff, reduceIte, ↓reduceIte, ri_eq, Int.natCast_add, Int.cast_ofNat_Int, rc]; try simp) (by simp only [cH, List.forall_mem_cons]; exact ⟨(by simp (disch := omega) only [EntIn, hx_map, xmap_blk, xmap_skipI, if_pos, if_neg, ↓reduceIte, nlI8, ints, List.map_cons, List.map_nil]), (by simp (disch := omega) only [EntIn, hx_map, xmap_blk, xmap_skipI, if_pos, if_neg, ↓reduceIte, nlI8, ints, List.map_cons, List.map_nil]), (by simp (disch := omega) only [EntIn, hx_map, xmap_blk, xmap_skipI, if_pos, if_neg, ↓reduceIte, nlI8, ints, List.map_cons, List.map_nil]), (by simp (disch := omega) only [EntIn, hx_map, xmap_blk, xmap_skipI, if_pos, if_neg, ↓reduceIte, nlI8, ints, List.map_cons, List.map_nil]), (by repeat (first | exact EntIn.self | refine EntIn.skipM ?_ (by simp only [mi_length]; omega))), by simp⟩) (Nat.le_refl _)⟩
          · show (W.drop off ++ [j]).drop 0 = q :: (W.drop off ++ [j]).drop (0 + 1)
            rw [Nat.zero_add, hW2, List.drop_zero, hW]; rfl
          · show Bfs n C y q ((W.drop off ++ [j]).drop (0 + 1)) (F.set j ((dq : Int) + 1))
            rw [Nat.zero_add, hW2]; exact hput
          · show 0 ≤ (F.set j ((dq : Int) + 1)).getD z 0
            by_cases e : z = j
            · subst e; rw [fset_at (by omega)]; omega
            · rw [fset_ne e]; exact hz z (by have : z < j + 1 := hz2; omega) hz3
        · rw [cH]
          simp (disch := omega) only [Try.ntmps27, Try.results27, go_sem, Nat.reduceLT, Nat.reduceLeDiff, Nat.reduceEqDiff, Nat.reduceAdd, Nat.reduceSub, Nat.reduceMul, reduceIte, ↓reduceIte, reduceCtorEq, Int.reduceToNat, Int.reduceLE, Int.reduceLT, Int.reduceNeg, Int.reduceSub, Int.reduceAdd, Int.reduceMul, rc, hlm, xmap_skipI, xmap_rowI, gj, hrow, hilF, gF]
          exact ⟨(j + 1, W, off, l, F, qb, nb), ⟨hlt, hol, hl1, hq1, hq2, hN, hW, hB, fun z hz2 hz3 => by
            show 0 ≤ F.getD z 0
            by_cases e : z = j
            · subst e; omega
            · exact hz z (by omega) hz3⟩, by show n - (j + 1) < n - j; omega, Wk.ofX (by simp only [go_sem, ↓List.forall_mem_cons, List.not_mem_nil, false_implies, implies_true, and_true, true_and, and_self, Nat.reduceEqDiff, reduceIte, ↓reduceIte, ri_eq, Int.natCast_add, Int.cast_ofNat_Int, rc]; try simp) (by simp only [cH, List.forall_mem_cons]; exact ⟨(by simp (disch := omega) only [EntIn, hx_map, xmap_blk, xmap_skipI, if_pos, if_neg, ↓reduceIte, nlI8, ints, List.map_cons, List.map_nil]), (by simp (disch := omega) only [EntIn, hx_map, xmap_blk, xmap_skipI, if_pos, if_neg, ↓reduceIte, nlI8, ints, List.map_cons, List.map_nil]), (by simp (disch := omega) only [EntIn, hx_map, xmap_blk, xmap_skipI, if_pos, if_neg, ↓reduceIte, nlI8, ints, List.map_cons, List.map_nil]), (by simp (disch := omega) only [EntIn, hx_map, xmap_blk, xmap_skipI, if_pos, if_neg, ↓reduceIte, nlI8, ints, List.map_cons, List.map_nil]), (by repeat (first | exact EntIn.self | refine EntIn.skipM ?_ (by simp only [mi_length]; omega))), by simp⟩) (Nat.le_refl _)⟩
    · obtain rfl : j = n := by omega
      rw [cH]
      simp (disch := omega) only [Try.ntmps27, Try.results27, go_sem, Nat.reduceLT, Nat.reduceLeDiff, Nat.reduceEqDiff, Nat.reduceAdd, Nat.reduceSub, Nat.reduceMul, reduceIte, ↓reduceIte, reduceCtorEq, Int.reduceToNat, Int.reduceLE, Int.reduceLT, Int.reduceNeg, Int.reduceSub, Int.reduceAdd, Int.reduceMul, rc, hlm]
      have hqs : ∀ z, adjC C q z → 0 ≤ F.getD z 0 := fun z h => hz z (hadj q z h) (adjC_mustB.1 h)
      refine ⟨(W, off + 1, l - 1, F, qb, nb), ⟨by show off + 1 + (l - 1) = W.length; omega, by show l - 1 ≤ j; omega, hq1, hq2, by show negs j F + (l - 1) ≤ j; omega, ?_⟩, by show negs j F + (l - 1) < N; omega, Wk.ofX (by simp only [go_sem, ↓List.forall_mem_cons, List.not_mem_nil, false_implies, implies_true, and_true, true_and, and_self, Nat.reduceEqDiff, reduceIte, ↓reduceIte, ri_eq, Int.natCast_add, Int.cast_ofNat_Int, rc, Bool.or_self]; try simp) (by simp only [cH, List.forall_mem_cons]; exact ⟨(by simp (disch := omega) only [EntIn, hx_map, xmap_blk, xmap_skipI, if_pos, if_neg, ↓reduceIte, nlI8, ints, List.map_cons, List.map_nil]), (by simp (disch := omega) only [EntIn, hx_map, xmap_blk, xmap_skipI, if_pos, if_neg, ↓reduceIte, nlI8, ints, List.map_cons, List.map_nil]), (by simp (disch := omega) only [EntIn, hx_map, xmap_blk, xmap_skipI, if_pos, if_neg, ↓reduceIte, nlI8, ints, List.map_cons, List.map_nil]), (by simp (disch := omega) only [EntIn, hx_map, xmap_blk, xmap_skipI, if_pos, if_neg, ↓reduceIte, nlI8, ints, List.map_cons, List.map_nil]), (by repeat (first | exact EntIn.self | refine EntIn.skipM ?_ (by simp only [mi_length]; omega))), by simp⟩) (Nat.le_refl _)⟩
      show (W.drop (off + 1) = [] ∧ FarL j C y F) ∨ ∃ q Q, W.drop (off + 1) = q :: Q ∧ Bfs j C y q Q F
      cases hQ : W.drop (off + 1) with
      | nil => exact .inl ⟨rfl, (hQ ▸ hB).done hadj hqs hy⟩
      | cons q' Q => exact .inr ⟨q', Q, rfl, (hQ ▸ hB).pop hadj hqs⟩
end Go.Sh

/-
  A chain of must-link constraints, of the reference.
-/
namespace Go.Sh
set_option linter.unusedSimpArgs false
set_option linter.unusedVariables false
open Go Go.Proofs

theorem fill_snoc (k : Nat) : ints (List.replicate k (-1)) ++ [.val (.int .i64 (-1))] = ints (List.replicate (k + 1) (-1)) := by
  rw [List.replicate_succ']; simp [ints]
theorem FarTo.zero {n b : Nat} {C : List Con} (hb : b < n) : FarTo n C b 0 ((List.replicate n (-1)).set b 0) := by
  refine ⟨by simp, fun x hx => ?_⟩
  by_cases e : x = b
  · subst e
    exact .inr ⟨0, Nat.le_refl _, by simp [List.getElem?_set, hx], isD_zero.2 rfl⟩
  · exact .inl ⟨by simp [List.getElem?_set, Ne.symm e, hx], fun h => e h⟩

theorem fi_nil {n : Nat} {F : List Int} {a : Nat} : fi n (near [] F a) = n := fi_none fun y _ => near_nil F a y
set_option maxRecDepth 20000 in
set_option maxHeartbeats 8000000 in
theorem Try.l18Chain_f (n a b : Nat) (C : List Con) (hC : areCons n C = true) (ha : a < n) (hb : b < n) (hd : ∃ d, IsD C b a d) : FCall Try.prog 94 [.val (.int .i64 n), rc C, .val (.int .i64 a), .val (.int .i64 b)] (FlatRes (chn n C (farL n C b) ((farL n C b).getD a 0).toNat a).length 1 (ints (chn n C (farL n C b) ((farL n C b).getD a 0).toNat a))) := by
  obtain ⟨⟨hn1, hn8⟩, hCl, hCc⟩ := areCons_t hC
  refine FCall.of_body Try.func94 rfl (by kernel_rfl) (by simp [Try.ntmps94]) ?_
  refine SW_of_vc Try.mixed _ _ _ (by kernel_rfl) ?_
  simp (disch := omega) only [Try.ntmps94, Try.results94, go_sem, Nat.reduceLT, Nat.reduceLeDiff, Nat.reduceEqDiff, Nat.reduceAdd, Nat.reduceSub, Nat.reduceMul, reduceIte, ↓reduceIte, reduceCtorEq, Int.reduceToNat, Int.reduceLE, Int.reduceLT, Int.reduceNeg, Int.reduceSub, Int.reduceAdd, Int.reduceMul, rc, rep_none]
  refine LoopW.loop (fun p : Nat × Nat × Nat => ⟨ofL [(0, .val (.int .i64 n)), (1, rc C), (2, .val (.int .i64 a)), (3, .val (.int .i64 b)), (9, .own p.2.1 0 p.1 p.1 1 false), (10, .val (.int .i64 p.1))], hp [(p.2.1, ⟨ints (List.replicate p.1 (-1)), false⟩)] p.2.2⟩)
    (fun p => p.1 ≤ n ∧ p.2.1 < p.2.2) (fun p => n - p.1) (0, 0, 1) ⟨by simp, by simp⟩ (Wk.ofH (by simp only [go_sem, ↓List.forall_mem_cons, List.not_mem_nil, false_implies, implies_true, and_true, true_and, and_self, Nat.reduceEqDiff, reduceIte, ↓reduceIte, ri_eq, Int.natCast_add, Int.cast_ofNat_Int, rc]; try simp) (by simp [hp, hmap, rep, ints]) (by simp [hp])) ?_
  rintro ⟨k, ob, nb⟩ ⟨hk, hob⟩
  simp only at hk hob
  refine SW_of_vc Try.mixed _ _ _ (by kernel_rfl) ?_
  by_cases hlt : k < n
  · have hil : (ints (List.replicate k (-1))).length = k := by simp [ints]
    have hit : (ints (List.replicate k (-1))).take k = ints (List.replicate k (-1)) := List.take_of_length_le (by omega)
    have hsn := fill_snoc k
    simp (disch := omega) only [Try.ntmps94, Try.results94, go_sem, Nat.reduceLT, Nat.reduceLeDiff, Nat.reduceEqDiff, Nat.reduceAdd, Nat.reduceSub, Nat.reduceMul, reduceIte, ↓reduceIte, reduceCtorEq, Int.reduceToNat, Int.reduceLE, Int.reduceLT, Int.reduceNeg, Int.reduceSub, Int.reduceAdd, Int.reduceMul, rc, hil, hit, hsn]
    exact ⟨(k + 1, nb + 1, nb + 1 + 1), ⟨hlt, by show nb + 1 < nb + 1 + 1; omega⟩, by show n - (k + 1) < n - k; omega, Wk.ofH (by simp only [go_sem, ↓List.forall_mem_cons, List.not_mem_nil, false_implies, implies_true, and_true, true_and, and_self, Nat.reduceEqDiff, reduceIte, ↓reduceIte, ri_eq, Int.natCast_add, Int.cast_ofNat_Int, rc]; try simp) (by simp (disch := omega) only [go_sem, ↓List.forall_mem_cons, List.not_mem_nil, false_implies, implies_true, and_true, true_and, and_self, Nat.reduceEqDiff, reduceIte, ↓reduceIte, ri_eq, Int.natCast_add, Int.cast_ofNat_Int, if_pos, if_neg, Nat.reduceAdd, List.nil_append]; try simp) (Nat.le_refl _)⟩
  · obtain rfl : k = n := by omega
    have hil : (ints (List.replicate k (-1))).length = k := by simp [ints]
    have hset : (ints (List.replicate k (-1))).set b (.val (.int .i64 0)) = ints ((List.replicate k (-1)).set b 0) := by simp [ints]
    have hz := FarTo.zero (C := C) hb
    simp (disch := omega) only [Try.ntmps94, Try.results94, go_sem, Nat.reduceLT, Nat.reduceLeDiff, Nat.reduceEqDiff, Nat.reduceAdd, Nat.reduceSub, Nat.reduceMul, reduceIte, ↓reduceIte, reduceCtorEq, Int.reduceToNat, Int.reduceLE, Int.reduceLT, Int.reduceNeg, Int.reduceSub, Int.reduceAdd, Int.reduceMul, rc, hil, hset]
    clear hil hset hlt
    refine LoopW.loop (fun p : Nat × List Int => ⟨ofL [(0, .val (.int .i64 k)), (1, rc C), (2, .val (.int .i64 a)), (3, .val (.int .i64 b)), (9, .own ob 0 k k 1 false), (11, .val (.int .i64 ((p.1 : Int) + 1)))], hp [(ob, ⟨ints p.2, false⟩)] nb⟩)
      (fun p => p.1 ≤ k ∧ FarTo k C b p.1 p.2) (fun p => k - p.1) (0, (List.replicate k (-1)).set b 0) ⟨by simp, hz⟩ (Wk.ofH (by simp only [go_sem, ↓List.forall_mem_cons, List.not_mem_nil, false_implies, implies_true, and_true, true_and, and_self, Nat.reduceEqDiff, reduceIte, ↓reduceIte, ri_eq, Int.natCast_add, Int.cast_ofNat_Int, rc]; try simp) (by simp (disch := omega) only [go_sem, ↓List.forall_mem_cons, List.not_mem_nil, false_implies, implies_true, and_true, true_and, and_self, Nat.reduceEqDiff, reduceIte, ↓reduceIte, ri_eq, Int.natCast_add, Int.cast_ofNat_Int, if_pos, if_neg, Nat.reduceAdd, List.nil_append]; try simp) (Nat.le_refl _)) ?_
    clear hz
    rintro ⟨t, F⟩ ⟨ht, hF⟩
    simp only at ht hF
    refine SW_of_vc Try.mixed _ _ _ (by kernel_rfl) ?_
    by_cases hlt : t < k
    · simp (disch := omega) only [Try.ntmps94, Try.results94, go_sem, Nat.reduceLT, Nat.reduceLeDiff, Nat.reduceEqDiff, Nat.reduceAdd, Nat.reduceSub, Nat.reduceMul, reduceIte, ↓reduceIte, reduceCtorEq, Int.reduceToNat, Int.reduceLE, Int.reduceLT, Int.reduceNeg, Int.reduceSub, Int.reduceAdd, Int.reduceMul, rc]
      refine LoopW.loop (fun p : Nat × List Int => ⟨ofL [(0, .val (.int .i64 k)), (1, rc C), (2, .val (.int .i64 a)), (3, .val (.int .i64 b)), (9, .own ob 0 k k 1 false), (11, .val (.int .i64 ((t : Int) + 1))), (12, .val (.int .i64 p.1))], hp [(ob, ⟨ints p.2, false⟩)] nb⟩)
        (fun p => p.1 ≤ C.length ∧ FarIn k C b t (C.take p.1) p.2) (fun p => C.length - p.1) (0, F) ⟨by simp, by rw [List.take_zero]; exact hF.start⟩ (Wk.ofH (by simp only [go_sem, ↓List.forall_mem_cons, List.not_mem_nil, false_implies, implies_true, and_true, true_and, and_self, Nat.reduceEqDiff, reduceIte, ↓reduceIte, ri_eq, Int.natCast_add, Int.cast_ofNat_Int, rc]; try simp) (by simp (disch := omega) only [go_sem, ↓List.forall_mem_cons, List.not_mem_nil, false_implies, implies_true, and_true, true_and, and_self, Nat.reduceEqDiff, reduceIte, ↓reduceIte, ri_eq, Int.natCast_add, Int.cast_ofNat_Int, if_pos, if_neg, Nat.reduceAdd, List.nil_append]; try simp) (Nat.le_refl _)) ?_
      clear hF
      rintro ⟨i, F⟩ ⟨hi, hF⟩
      simp only at hi hF
      refine SW_of_vc Try.mixed _ _ _ (by kernel_rfl) ?_
      by_cases hlt2 : i < C.length
      · obtain ⟨xa, ya, s, hc⟩ := con_ex C i
        have hm : (xa, ya, s) ∈ C := by rw [← hc]; exact cg_mem hlt2
        obtain ⟨x1, x2, x3⟩ := hCc _ hm
        simp only at x1 x2 x3
        obtain ⟨x, rfl⟩ := Int.eq_ofNat_of_zero_le x1
        obtain ⟨y, rfl⟩ := Int.eq_ofNat_of_zero_le (by omega : 0 ≤ ya)
        have hx : x < k := by omega
        have hy : y < k := by omega
        obtain ⟨q1, q2, q3, _⟩ := cons_of hlt2 hc
        have hnext := hF.step hm hx hy
        have htk : C.take (i + 1) = C.take i ++ [((x : Int), (y : Int), s)] := by
          rw [List.take_succ_eq_append_getElem hlt2, ← hc]; simp [cg, hlt2]
        have hfs : fstep t F ((x : Int), (y : Int), s) = Go.Sh.fput t (Go.Sh.fput t F x y s) y x s := rfl
        rw [hfs, ← htk] at hnext
        have hFl := hF.1
        have gx : (ints F)[x]? = some (.val (.int .i64 (F.getD x 0))) := ints_get (by omega)
        have gy : (ints F)[y]? = some (.val (.int .i64 (F.getD y 0))) := ints_get (by omega)
        have hil : (ints F).length = k := by rw [ints_length, hFl]
        have px : (F.set x ((t : Int) + 1)).getD x 0 = (t : Int) + 1 := by simp [List.getElem?_set, hFl, hx]
        have py : (F.set y ((t : Int) + 1)).getD y 0 = (t : Int) + 1 := by simp [List.getElem?_set, hFl, hy]
        have g2 : (ints (F.set y ((t : Int) + 1)))[y]? = some (.val (.int .i64 ((t : Int) + 1))) := by rw [ints_get (by rw [List.length_set]; omega), py]
        clear hF hc hm htk hfs hCc
        cases s with
        | false =>
          have e : Go.Sh.fput t (Go.Sh.fput t F x y false) y x false = F := by rw [Go.Sh.fput, Go.Sh.fput, if_neg (by simp), if_neg (by simp)]
          rw [e] at hnext
          simp (disch := omega) only [Try.ntmps94, Try.results94, go_sem, Nat.reduceLT, Nat.reduceLeDiff, Nat.reduceEqDiff, Nat.reduceAdd, Nat.reduceSub, Nat.reduceMul, reduceIte, ↓reduceIte, reduceCtorEq, Int.reduceToNat, Int.reduceLE, Int.reduceLT, Int.reduceNeg, Int.reduceSub, Int.reduceAdd, Int.reduceMul, rc, q1, q2, q3, gx, gy]
          exact ⟨(i + 1, F), ⟨hlt2, hnext⟩, by show C.length - (i + 1) < C.length - i; omega, Wk.ofH (by simp only [go_sem, ↓List.forall_mem_cons, List.not_mem_nil, false_implies, implies_true, and_true, true_and, and_self, Nat.reduceEqDiff, reduceIte, ↓reduceIte, ri_eq, Int.natCast_add, Int.cast_ofNat_Int, rc]; try simp) (by simp (disch := omega) only [go_sem, ↓List.forall_mem_cons, List.not_mem_nil, false_implies, implies_true, and_true, true_and, and_self, Nat.reduceEqDiff, reduceIte, ↓reduceIte, ri_eq, Int.natCast_add, Int.cast_ofNat_Int, if_pos, if_neg, Nat.reduceAdd, List.nil_append]; try simp) (Nat.le_refl _)⟩
        | true =>
          by_cases c1 : F.getD x 0 = (t : Int)
          · by_cases c2 : F.getD y 0 < 0
            · have e1 : Go.Sh.fput t F x y true = F.set y ((t : Int) + 1) := if_pos ⟨rfl, c1, c2⟩
              have e : Go.Sh.fput t (Go.Sh.fput t F x y true) y x true = F.set y ((t : Int) + 1) := by rw [e1]; exact if_neg (fun h => by have := h.2.1; omega)
              rw [e] at hnext
              simp (disch := omega) only [Try.ntmps94, Try.results94, go_sem, Nat.reduceLT, Nat.reduceLeDiff, Nat.reduceEqDiff, Nat.reduceAdd, Nat.reduceSub, Nat.reduceMul, reduceIte, ↓reduceIte, reduceCtorEq, Int.reduceToNat, Int.reduceLE, Int.reduceLT, Int.reduceNeg, Int.reduceSub, Int.reduceAdd, Int.reduceMul, rc, q1, q2, q3, gx, gy, ints_set, g2, c1]
              exact ⟨(i + 1, F.set y ((t : Int) + 1)), ⟨hlt2, hnext⟩, by show C.length - (i + 1) < C.length - i; omega, Wk.ofH (by simp only [go_sem, ↓List.forall_mem_cons, List.not_mem_nil, false_implies, implies_true, and_true, true_and, and_self, Nat.reduceEqDiff, reduceIte, ↓reduceIte, ri_eq, Int.natCast_add, Int.cast_ofNat_Int, rc]; try simp) (by simp (disch := omega) only [go_sem, ↓List.forall_mem_cons, List.not_mem_nil, false_implies, implies_true, and_true, true_and, and_self, Nat.reduceEqDiff, reduceIte, ↓reduceIte, ri_eq, Int.natCast_add, Int.cast_ofNat_Int, if_pos, if_neg, Nat.reduceAdd, List.nil_append]; try simp) (Nat.le_refl _)⟩
            · have e1 : Go.Sh.fput t F x y true = F := if_neg (fun h => c2 h.2.2)
              by_cases c3 : F.getD y 0 = (t : Int)
              · skip
                have e : Go.Sh.fput t (Go.Sh.fput t F x y true) y x true = F := by rw [e1]; exact if_neg (fun h => by have := h.2.2; omega)
                rw [e] at hnext
                simp (disch := omega) only [Try.ntmps94, Try.results94, go_sem, Nat.reduceLT, Nat.reduceLeDiff, Nat.reduceEqDiff, Nat.reduceAdd, Nat.reduceSub, Nat.reduceMul, reduceIte, ↓reduceIte, reduceCtorEq, Int.reduceToNat, Int.reduceLE, Int.reduceLT, Int.reduceNeg, Int.reduceSub, Int.reduceAdd, Int.reduceMul, rc, q1, q2, q3, gx, gy, c1, c3]
                exact ⟨(i + 1, F), ⟨hlt2, hnext⟩, by show C.length - (i + 1) < C.length - i; omega, Wk.ofH (by simp only [go_sem, ↓List.forall_mem_cons, List.not_mem_nil, false_implies, implies_true, and_true, true_and, and_self, Nat.reduceEqDiff, reduceIte, ↓reduceIte, ri_eq, Int.natCast_add, Int.cast_ofNat_Int, rc]; try simp) (by simp (disch := omega) only [go_sem, ↓List.forall_mem_cons, List.not_mem_nil, false_implies, implies_true, and_true, true_and, and_self, Nat.reduceEqDiff, reduceIte, ↓reduceIte, ri_eq, Int.natCast_add, Int.cast_ofNat_Int, if_pos, if_neg, Nat.reduceAdd, List.nil_append]; try simp) (Nat.le_refl _)⟩
              · skip
                have e : Go.Sh.fput t (Go.Sh.fput t F x y true) y x true = F := by rw [e1]; exact if_neg (fun h => c3 h.2.1)
                rw [e] at hnext
                simp (disch := omega) only [Try.ntmps94, Try.results94, go_sem, Nat.reduceLT, Nat.reduceLeDiff, Nat.reduceEqDiff, Nat.reduceAdd, Nat.reduceSub, Nat.reduceMul, reduceIte, ↓reduceIte, reduceCtorEq, Int.reduceToNat, Int.reduceLE, Int.reduceLT, Int.reduceNeg, Int.reduceSub, Int.reduceAdd, Int.reduceMul, rc, q1, q2, q3, gx, gy, c1]
                exact ⟨(i + 1, F), ⟨hlt2, hnext⟩, by show C.length - (i + 1) < C.length - i; omega, Wk.ofH (by simp only [go_sem, ↓List.forall_mem_cons, List.not_mem_nil, false_implies, implies_true, and_true, true_and, and_self, Nat.reduceEqDiff, reduceIte, ↓reduceIte, ri_eq, Int.natCast_add, Int.cast_ofNat_Int, rc]; try simp) (by simp (disch := omega) only [go_sem, ↓List.forall_mem_cons, List.not_mem_nil, false_implies, implies_true, and_true, true_and, and_self, Nat.reduceEqDiff, reduceIte, ↓reduceIte, ri_eq, Int.natCast_add, Int.cast_ofNat_Int, if_pos, if_neg, Nat.reduceAdd, List.nil_append]; try simp) (Nat.le_refl _)⟩
          · have e1 : Go.Sh.fput t F x y true = F := if_neg (fun h => c1 h.2.1)
            by_cases c3 : F.getD y 0 = (t : Int)
            · by_cases c4 : F.getD x 0 < 0
              · skip
                have e : Go.Sh.fput t (Go.Sh.fput t F x y true) y x true = F.set x ((t : Int) + 1) := by rw [e1]; exact if_pos ⟨rfl, c3, c4⟩
                rw [e] at hnext
                simp (disch := omega) only [Try.ntmps94, Try.results94, go_sem, Nat.reduceLT, Nat.reduceLeDiff, Nat.reduceEqDiff, Nat.reduceAdd, Nat.reduceSub, Nat.reduceMul, reduceIte, ↓reduceIte, reduceCtorEq, Int.reduceToNat, Int.reduceLE, Int.reduceLT, Int.reduceNeg, Int.reduceSub, Int.reduceAdd, Int.reduceMul, rc, q1, q2, q3, gx, gy, ints_set, c3]
                exact ⟨(i + 1, F.set x ((t : Int) + 1)), ⟨hlt2, hnext⟩, by show C.length - (i + 1) < C.length - i; omega, Wk.ofH (by simp only [go_sem, ↓List.forall_mem_cons, List.not_mem_nil, false_implies, implies_true, and_true, true_and, and_self, Nat.reduceEqDiff, reduceIte, ↓reduceIte, ri_eq, Int.natCast_add, Int.cast_ofNat_Int, rc]; try simp) (by simp (disch := omega) only [go_sem, ↓List.forall_mem_cons, List.not_mem_nil, false_implies, implies_true, and_true, true_and, and_self, Nat.reduceEqDiff, reduceIte, ↓reduceIte, ri_eq, Int.natCast_add, Int.cast_ofNat_Int, if_pos, if_neg, Nat.reduceAdd, List.nil_append]; try simp) (Nat.le_refl _)⟩
              · skip
                have e : Go.Sh.fput t (Go.Sh.fput t F x y true) y x true = F := by rw [e1]; exact if_neg (fun h => c4 h.2.2)
                rw [e] at hnext
                simp (disch := omega) only [Try.ntmps94, Try.results94, go_sem, Nat.reduceLT, Nat.reduceLeDiff, Nat.reduceEqDiff, Nat.reduceAdd, Nat.reduceSub, Nat.reduceMul, reduceIte, ↓reduceIte, reduceCtorEq, Int.reduceToNat, Int.reduceLE, Int.reduceLT, Int.reduceNeg, Int.reduceSub, Int.reduceAdd, Int.reduceMul, rc, q1, q2, q3, gx, gy, c3]
                exact ⟨(i + 1, F), ⟨hlt2, hnext⟩, by show C.length - (i + 1) < C.length - i; omega, Wk.ofH (by simp only [go_sem, ↓List.forall_mem_cons, List.not_mem_nil, false_implies, implies_true, and_true, true_and, and_self, Nat.reduceEqDiff, reduceIte, ↓reduceIte, ri_eq, Int.natCast_add, Int.cast_ofNat_Int, rc]; try simp) (by simp (disch := omega) only [go_sem, ↓List.forall_mem_cons, List.not_mem_nil, false_implies, implies_true, and_true, true_and, and_self, Nat.reduceEqDiff, reduceIte, ↓reduceIte, ri_eq, Int.natCast_add, Int.cast_ofNat_Int, if_pos, if_neg, Nat.reduceAdd, List.nil_append]; try simp) (Nat.le_refl _)⟩
            · skip
              have e : Go.Sh.fput t (Go.Sh.fput t F x y true) y x true = F := by rw [e1]; exact if_neg (fun h => c3 h.2.1)
              rw [e] at hnext
              simp (disch := omega) only [Try.ntmps94, Try.results94, go_sem, Nat.reduceLT, Nat.reduceLeDiff, Nat.reduceEqDiff, Nat.reduceAdd, Nat.reduceSub, Nat.reduceMul, reduceIte, ↓reduceIte, reduceCtorEq, Int.reduceToNat, Int.reduceLE, Int.reduceLT, Int.reduceNeg, Int.reduceSub, Int.reduceAdd, Int.reduceMul, rc, q1, q2, q3, gx, gy]
              exact ⟨(i + 1, F), ⟨hlt2, hnext⟩, by show C.length - (i + 1) < C.length - i; omega, Wk.ofH (by simp only [go_sem, ↓List.forall_mem_cons, List.not_mem_nil, false_implies, implies_true, and_true, true_and, and_self, Nat.reduceEqDiff, reduceIte, ↓reduceIte, ri_eq, Int.natCast_add, Int.cast_ofNat_Int, rc]; try simp) (by simp (disch := omega) only [go_sem, ↓List.forall_mem_cons, List.not_mem_nil, false_implies, implies_true, and_true, true_and, and_self, Nat.reduceEqDiff, reduceIte, ↓reduceIte, ri_eq, Int.natCast_add, Int.cast_ofNat_Int, if_pos, if_neg, Nat.reduceAdd, List.nil_append]; try simp) (Nat.le_refl _)⟩
      · obtain rfl : i = C.length := by omega
        rw [List.take_length] at hF
        have hF := hF.stop
        simp (disch := omega) only [Try.ntmps94, Try.results94, go_sem, Nat.reduceLT, Nat.reduceLeDiff, Nat.reduceEqDiff, Nat.reduceAdd, Nat.reduceSub, Nat.reduceMul, reduceIte, ↓reduceIte, reduceCtorEq, Int.reduceToNat, Int.reduceLE, Int.reduceLT, Int.reduceNeg, Int.reduceSub, Int.reduceAdd, Int.reduceMul, rc]
        exact ⟨(t + 1, F), ⟨hlt, hF⟩, by show k - (t + 1) < k - t; omega, Wk.ofH (by simp only [go_sem, ↓List.forall_mem_cons, List.not_mem_nil, false_implies, implies_true, and_true, true_and, and_self, Nat.reduceEqDiff, reduceIte, ↓reduceIte, ri_eq, Int.natCast_add, Int.cast_ofNat_Int, rc]; try simp) (by simp (disch := omega) only [go_sem, ↓List.forall_mem_cons, List.not_mem_nil, false_implies, implies_true, and_true, true_and, and_self, Nat.reduceEqDiff, reduceIte, ↓reduceIte, ri_eq, Int.natCast_add, Int.cast_ofNat_Int, if_pos, if_neg, Nat.reduceAdd, List.nil_append]; try simp) (Nat.le_refl _)⟩
    · obtain rfl : t = k := by omega
      have hfar := hF.farL hb (areCons_adj hC)
      obtain ⟨d, hd⟩ := hd
      have hFd : F.getD a 0 = (d : Int) := by
        rcases hfar.2 a ha with ⟨_, h2⟩ | ⟨e, h1, h2⟩
        · exact absurd hd.1 (h2 d)
        · rw [h1, isD_uniq h2 hd]
      rw [← hfar.eq, hFd, Int.toNat_natCast]
      have hFl := hF.1
      have hil : (ints F).length = t := by rw [ints_length, hFl]
      have hdn := isD_lt hb (areCons_adj hC) hd
      simp (disch := omega) only [Try.ntmps94, Try.results94, go_sem, Nat.reduceLT, Nat.reduceLeDiff, Nat.reduceEqDiff, Nat.reduceAdd, Nat.reduceSub, Nat.reduceMul, reduceIte, ↓reduceIte, reduceCtorEq, Int.reduceToNat, Int.reduceLE, Int.reduceLT, Int.reduceNeg, Int.reduceSub, Int.reduceAdd, Int.reduceMul, rc]
      refine LoopW.loop (fun p : Nat × Nat × List Int × Nat × Nat => ⟨ofL [(0, .val (.int .i64 t)), (1, rc C), (2, .val (.int .i64 p.1)), (9, .own ob 0 t t 1 false), (15, .own p.2.2.2.1 0 p.2.2.1.length p.2.2.1.length 1 false)], hp [(p.2.2.2.1, ⟨ints p.2.2.1, false⟩), (ob, ⟨ints F, false⟩)] p.2.2.2.2⟩)
        (fun p => p.1 < t ∧ F.getD p.1 0 = (p.2.1 : Int) ∧ p.2.1 < t ∧ p.2.2.1 ++ (chn t C F p.2.1 p.1).tail = chn t C F d a ∧ p.2.2.1.length ≤ t + 1 - p.2.1 ∧ ob < p.2.2.2.1 ∧ p.2.2.2.1 < p.2.2.2.2) (fun p => p.2.1) (a, d, [(a : Int)], nb, nb + 1) ⟨ha, hFd, hdn, by cases d <;> rfl, by simp; omega, by show ob < nb; omega, by show nb < nb + 1; omega⟩ (Wk.ofH (by simp only [go_sem, ↓List.forall_mem_cons, List.not_mem_nil, false_implies, implies_true, and_true, true_and, and_self, Nat.reduceEqDiff, reduceIte, ↓reduceIte, ri_eq, Int.natCast_add, Int.cast_ofNat_Int, rc]; try simp) (by simp [hp, hmap, ints]; intro h; omega) (by simp [hp])) ?_
      clear hFd hd ha hdn
      rintro ⟨a, e, L, q, nb⟩ ⟨ha, hFe, hen, hL, hLl, hq1, hq2⟩
      simp only at ha hFe hen hL hLl hq1 hq2
      have ga : (ints F)[a]? = some (.val (.int .i64 e)) := by rw [ints_get (by omega), hFe]
      refine SW_of_vc Try.mixed _ _ _ (by kernel_rfl) ?_
      cases e with
      | zero =>
        simp (disch := omega) only [Try.ntmps94, Try.results94, go_sem, Nat.reduceLT, Nat.reduceLeDiff, Nat.reduceEqDiff, Nat.reduceAdd, Nat.reduceSub, Nat.reduceMul, reduceIte, ↓reduceIte, reduceCtorEq, Int.reduceToNat, Int.reduceLE, Int.reduceLT, Int.reduceNeg, Int.reduceSub, Int.reduceAdd, Int.reduceMul, rc, hil, ga]
        rw [chn, List.tail_cons, List.append_nil] at hL
        rw [← hL]
        exact fin_ints rfl (by rw [hp_map, hmap_cons, if_pos rfl])
      | succ e =>
        have hk := hfar.pkn (areCons_adj hC) ha hFe
        have hp0 : pkn t C F a = fi t (near C F a) := rfl
        rw [hp0] at hk
        simp (disch := omega) only [Try.ntmps94, Try.results94, go_sem, Nat.reduceLT, Nat.reduceLeDiff, Nat.reduceEqDiff, Nat.reduceAdd, Nat.reduceSub, Nat.reduceMul, reduceIte, ↓reduceIte, reduceCtorEq, Int.reduceToNat, Int.reduceLE, Int.reduceLT, Int.reduceNeg, Int.reduceSub, Int.reduceAdd, Int.reduceMul, rc, hil, ga]
        refine LoopW.loop (fun p : Nat => ⟨ofL [(0, .val (.int .i64 t)), (1, rc C), (2, .val (.int .i64 a)), (9, .own ob 0 t t 1 false), (15, .own q 0 L.length L.length 1 false), (16, .val (.int .i64 (fi t (near (C.take p) F a)))), (17, .val (.int .i64 p))], hp [(q, ⟨ints L, false⟩), (ob, ⟨ints F, false⟩)] nb⟩)
          (fun p => p ≤ C.length) (fun p => C.length - p) 0 (by omega) (Wk.ofH (by simp only [go_sem, ↓List.forall_mem_cons, List.not_mem_nil, false_implies, implies_true, and_true, true_and, and_self, Nat.reduceEqDiff, reduceIte, ↓reduceIte, ri_eq, Int.natCast_add, Int.cast_ofNat_Int, rc, fi_nil]; try simp) (by simp (disch := omega) only [go_sem, ↓List.forall_mem_cons, List.not_mem_nil, false_implies, implies_true, and_true, true_and, and_self, Nat.reduceEqDiff, reduceIte, ↓reduceIte, ri_eq, Int.natCast_add, Int.cast_ofNat_Int, if_pos, if_neg, Nat.reduceAdd, List.nil_append]; try simp) (Nat.le_refl _)) ?_
        rintro i hi
        refine SW_of_vc Try.mixed _ _ _ (by kernel_rfl) ?_
        by_cases hlt2 : i < C.length
        · obtain ⟨xa, ya, s, hc⟩ := con_ex C i
          have hm : (xa, ya, s) ∈ C := by rw [← hc]; exact cg_mem hlt2
          obtain ⟨x1, x2, x3⟩ := hCc _ hm
          simp only at x1 x2 x3
          obtain ⟨x, rfl⟩ := Int.eq_ofNat_of_zero_le x1
          obtain ⟨y, rfl⟩ := Int.eq_ofNat_of_zero_le (by omega : 0 ≤ ya)
          have hx : x < t := by omega
          have hy : y < t := by omega
          obtain ⟨q1, q2, q3, _⟩ := cons_of hlt2 hc
          have hns := near_step (F := F) (a := a) hlt2 hc hx hy
          have hle := fi_le t (near (C.take i) F a)
          simp only at hns
          have gx : (ints F)[x]? = some (.val (.int .i64 (F.getD x 0))) := ints_get (by omega)
          have gy : (ints F)[y]? = some (.val (.int .i64 (F.getD y 0))) := ints_get (by omega)
          generalize fi t (near (C.take i) F a) = B at *
          generalize hB2 : fi t (near (C.take (i + 1)) F a) = B2 at *
          have hmx : min B x ≤ t := by omega
          have hmy : min B y ≤ t := by omega
          clear hm hCc
          cases s with
          | false =>
            rw [if_neg (by simp), if_neg (by simp)] at hns
            subst hns
            simp (disch := omega) only [Try.ntmps94, Try.results94, go_sem, Nat.reduceLT, Nat.reduceLeDiff, Nat.reduceEqDiff, Nat.reduceAdd, Nat.reduceSub, Nat.reduceMul, reduceIte, ↓reduceIte, reduceCtorEq, Int.reduceToNat, Int.reduceLE, Int.reduceLT, Int.reduceNeg, Int.reduceSub, Int.reduceAdd, Int.reduceMul, rc, q1, q2, q3, hil]
            exact ⟨i + 1, hlt2, by omega, Wk.ofH (by simp only [go_sem, ↓List.forall_mem_cons, List.not_mem_nil, false_implies, implies_true, and_true, true_and, and_self, Nat.reduceEqDiff, reduceIte, ↓reduceIte, ri_eq, Int.natCast_add, Int.cast_ofNat_Int, rc, hB2]; try simp) (by simp (disch := omega) only [go_sem, ↓List.forall_mem_cons, List.not_mem_nil, false_implies, implies_true, and_true, true_and, and_self, Nat.reduceEqDiff, reduceIte, ↓reduceIte, ri_eq, Int.natCast_add, Int.cast_ofNat_Int, if_pos, if_neg, Nat.reduceAdd, List.nil_append]; try simp) (Nat.le_refl _)⟩
          | true =>
            by_cases c1 : x = a
            · subst c1
              by_cases c2 : F.getD y 0 = (e : Int)
              · rw [if_neg (by omega), if_pos ⟨rfl, rfl, by omega⟩] at hns
                have hmin : (if (y : Int) < (B : Int) then (y : Int) else (B : Int)) = ((min B y : Nat) : Int) := by split <;> omega
                subst hns
                simp (disch := omega) only [Try.ntmps94, Try.results94, go_sem, Nat.reduceLT, Nat.reduceLeDiff, Nat.reduceEqDiff, Nat.reduceAdd, Nat.reduceSub, Nat.reduceMul, reduceIte, ↓reduceIte, reduceCtorEq, Int.reduceToNat, Int.reduceLE, Int.reduceLT, Int.reduceNeg, Int.reduceSub, Int.reduceAdd, Int.reduceMul, rc, q1, q2, q3, hil, ga, gy, c2]
                exact ⟨i + 1, hlt2, by omega, Wk.ofH (by simp only [go_sem, ↓List.forall_mem_cons, List.not_mem_nil, false_implies, implies_true, and_true, true_and, and_self, Nat.reduceEqDiff, reduceIte, ↓reduceIte, ri_eq, Int.natCast_add, Int.cast_ofNat_Int, rc, hB2, hmin]; try simp) (by simp (disch := omega) only [go_sem, ↓List.forall_mem_cons, List.not_mem_nil, false_implies, implies_true, and_true, true_and, and_self, Nat.reduceEqDiff, reduceIte, ↓reduceIte, ri_eq, Int.natCast_add, Int.cast_ofNat_Int, if_pos, if_neg, Nat.reduceAdd, List.nil_append]; try simp) (Nat.le_refl _)⟩
              · rw [if_neg (by omega), if_neg (by omega)] at hns
                subst hns
                simp (disch := omega) only [Try.ntmps94, Try.results94, go_sem, Nat.reduceLT, Nat.reduceLeDiff, Nat.reduceEqDiff, Nat.reduceAdd, Nat.reduceSub, Nat.reduceMul, reduceIte, ↓reduceIte, reduceCtorEq, Int.reduceToNat, Int.reduceLE, Int.reduceLT, Int.reduceNeg, Int.reduceSub, Int.reduceAdd, Int.reduceMul, rc, q1, q2, q3, hil, ga, gy]
                exact ⟨i + 1, hlt2, by omega, Wk.ofH (by simp only [go_sem, ↓List.forall_mem_cons, List.not_mem_nil, false_implies, implies_true, and_true, true_and, and_self, Nat.reduceEqDiff, reduceIte, ↓reduceIte, ri_eq, Int.natCast_add, Int.cast_ofNat_Int, rc, hB2]; try simp) (by simp (disch := omega) only [go_sem, ↓List.forall_mem_cons, List.not_mem_nil, false_implies, implies_true, and_true, true_and, and_self, Nat.reduceEqDiff, reduceIte, ↓reduceIte, ri_eq, Int.natCast_add, Int.cast_ofNat_Int, if_pos, if_neg, Nat.reduceAdd, List.nil_append]; try simp) (Nat.le_refl _)⟩
            · by_cases c3 : y = a
              · subst c3
                by_cases c2 : F.getD x 0 = (e : Int)
                · rw [if_pos ⟨rfl, rfl, by omega⟩, if_neg (by omega)] at hns
                  have hmin : (if (x : Int) < (B : Int) then (x : Int) else (B : Int)) = ((min B x : Nat) : Int) := by split <;> omega
                  subst hns
                  simp (disch := omega) only [Try.ntmps94, Try.results94, go_sem, Nat.reduceLT, Nat.reduceLeDiff, Nat.reduceEqDiff, Nat.reduceAdd, Nat.reduceSub, Nat.reduceMul, reduceIte, ↓reduceIte, reduceCtorEq, Int.reduceToNat, Int.reduceLE, Int.reduceLT, Int.reduceNeg, Int.reduceSub, Int.reduceAdd, Int.reduceMul, rc, q1, q2, q3, hil, ga, gx, c2]
                  exact ⟨i + 1, hlt2, by omega, Wk.ofH (by simp only [go_sem, ↓List.forall_mem_cons, List.not_mem_nil, false_implies, implies_true, and_true, true_and, and_self, Nat.reduceEqDiff, reduceIte, ↓reduceIte, ri_eq, Int.natCast_add, Int.cast_ofNat_Int, rc, hB2, hmin]; try simp) (by simp (disch := omega) only [go_sem, ↓List.forall_mem_cons, List.not_mem_nil, false_implies, implies_true, and_true, true_and, and_self, Nat.reduceEqDiff, reduceIte, ↓reduceIte, ri_eq, Int.natCast_add, Int.cast_ofNat_Int, if_pos, if_neg, Nat.reduceAdd, List.nil_append]; try simp) (Nat.le_refl _)⟩
                · rw [if_neg (by omega), if_neg (by omega)] at hns
                  subst hns
                  simp (disch := omega) only [Try.ntmps94, Try.results94, go_sem, Nat.reduceLT, Nat.reduceLeDiff, Nat.reduceEqDiff, Nat.reduceAdd, Nat.reduceSub, Nat.reduceMul, reduceIte, ↓reduceIte, reduceCtorEq, Int.reduceToNat, Int.reduceLE, Int.reduceLT, Int.reduceNeg, Int.reduceSub, Int.reduceAdd, Int.reduceMul, rc, q1, q2, q3, hil, ga, gx]
                  exact ⟨i + 1, hlt2, by omega, Wk.ofH (by simp only [go_sem, ↓List.forall_mem_cons, List.not_mem_nil, false_implies, implies_true, and_true, true_and, and_self, Nat.reduceEqDiff, reduceIte, ↓reduceIte, ri_eq, Int.natCast_add, Int.cast_ofNat_Int, rc, hB2]; try simp) (by simp (disch := omega) only [go_sem, ↓List.forall_mem_cons, List.not_mem_nil, false_implies, implies_true, and_true, true_and, and_self, Nat.reduceEqDiff, reduceIte, ↓reduceIte, ri_eq, Int.natCast_add, Int.cast_ofNat_Int, if_pos, if_neg, Nat.reduceAdd, List.nil_append]; try simp) (Nat.le_refl _)⟩
              · rw [if_neg (by omega), if_neg (by omega)] at hns
                subst hns
                simp (disch := omega) only [Try.ntmps94, Try.results94, go_sem, Nat.reduceLT, Nat.reduceLeDiff, Nat.reduceEqDiff, Nat.reduceAdd, Nat.reduceSub, Nat.reduceMul, reduceIte, ↓reduceIte, reduceCtorEq, Int.reduceToNat, Int.reduceLE, Int.reduceLT, Int.reduceNeg, Int.reduceSub, Int.reduceAdd, Int.reduceMul, rc, q1, q2, q3, hil]
                exact ⟨i + 1, hlt2, by omega, Wk.ofH (by simp only [go_sem, ↓List.forall_mem_cons, List.not_mem_nil, false_implies, implies_true, and_true, true_and, and_self, Nat.reduceEqDiff, reduceIte, ↓reduceIte, ri_eq, Int.natCast_add, Int.cast_ofNat_Int, rc, hB2]; try simp) (by simp (disch := omega) only [go_sem, ↓List.forall_mem_cons, List.not_mem_nil, false_implies, implies_true, and_true, true_and, and_self, Nat.reduceEqDiff, reduceIte, ↓reduceIte, ri_eq, Int.natCast_add, Int.cast_ofNat_Int, if_pos, if_neg, Nat.reduceAdd, List.nil_append]; try simp) (Nat.le_refl _)⟩
        · obtain rfl : i = C.length := by omega
          rw [List.take_length]
          rw [chn, List.tail_cons, hp0] at hL
          generalize fi t (near C F a) = B at *
          have hil2 : (ints L).length = L.length := ints_length L
          have hit : (ints L).take L.length = ints L := List.take_of_length_le (by omega)
          have hsn : ints L ++ [.val (.int .i64 (B : Int))] = ints (L ++ [(B : Int)]) := by simp [ints]
          simp (disch := omega) only [Try.ntmps94, Try.results94, go_sem, Nat.reduceLT, Nat.reduceLeDiff, Nat.reduceEqDiff, Nat.reduceAdd, Nat.reduceSub, Nat.reduceMul, reduceIte, ↓reduceIte, reduceCtorEq, Int.reduceToNat, Int.reduceLE, Int.reduceLT, Int.reduceNeg, Int.reduceSub, Int.reduceAdd, Int.reduceMul, rc, hil2, hit, hsn]
          refine ⟨(B, e, L ++ [(B : Int)], nb + 1, nb + 1 + 1), ⟨hk.1, hk.2.1, by show e < t; omega, ?_, by show (L ++ [(B : Int)]).length ≤ t + 1 - e; rw [List.length_append, List.length_singleton]; omega, by show ob < nb + 1; omega, by show nb + 1 < nb + 1 + 1; omega⟩, by show e < e + 1; omega, Wk.ofH (by simp only [go_sem, ↓List.forall_mem_cons, List.not_mem_nil, false_implies, implies_true, and_true, true_and, and_self, Nat.reduceEqDiff, reduceIte, ↓reduceIte, ri_eq, Int.natCast_add, Int.cast_ofNat_Int, rc]; try simp) (by simp (disch := omega) only [go_sem, ↓List.forall_mem_cons, List.not_mem_nil, false_implies, implies_true, and_true, true_and, and_self, Nat.reduceEqDiff, reduceIte, ↓reduceIte, ri_eq, Int.natCast_add, Int.cast_ofNat_Int, if_pos, if_neg, Nat.reduceAdd, List.nil_append]; try simp) (Nat.le_refl _)⟩
          show L ++ [(B : Int)] ++ (chn t C F e B).tail = _
          rw [← hL]
          cases e <;> simp [chn]
end Go.Sh

/-
  Chains of conflicts: the contracts of both.
-/
namespace Go.Sh
set_option linter.unusedSimpArgs false
set_option linter.unusedVariables false
open Go Go.Proofs

theorem cchain_neg {n : Int} {C : List Con} (h : ¬ 0 ≤ conflict n C) : cchain n C = [] := by rw [cchain, if_neg h]
theorem cchain_pos {n : Nat} {C : List Con} {k x y : Nat} (hk : conflict n C = (k : Int)) (hc : cg C k = ((x : Int), (y : Int), false)) : cchain n C = chn n C (farL n C y) ((farL n C y).getD x 0).toNat x := by
  rw [cchain, if_pos (by omega), hk]
  simp only [Int.toNat_natCast, hc]
theorem conflict_con {n : Int} {C : List Con} (h : 0 ≤ conflict n C) : areCons n C = true := by
  rcases Bool.eq_false_or_eq_true (areCons n C) with ha | ha
  · exact ha
  · rw [conflict_f ha] at h; omega
theorem cchain_n {n : Int} {C : List Con} (h : 0 ≤ conflict n C) : ∃ m : Nat, n = m ∧ m ≤ 8 ∧ 1 ≤ m := by
  obtain ⟨⟨n1, n2⟩, _⟩ := areCons_t (conflict_con h)
  exact ⟨n.toNat, by omega, by omega, by omega⟩
theorem conflict_atN {n : Nat} {C : List Con} (h : 0 ≤ conflict n C) : ∃ k x y : Nat, k < C.length ∧ conflict n C = (k : Int) ∧ cg C k = ((x : Int), (y : Int), false) ∧ x < y ∧ y < n ∧ ∃ d, IsD C y x d := by
  obtain ⟨_, k, h1, h2, x, y, h3, h4, h5, h6⟩ := conflict_at h
  exact ⟨k, x, y, h1, h2, h3, h4, by omega, h6⟩
theorem cchain_len {n : Int} {C : List Con} (h : 0 ≤ conflict n C) : (cchain n C).length ≤ 8 := by
  have ha := conflict_con h
  obtain ⟨m, rfl, h8, _⟩ := cchain_n h
  obtain ⟨k, x, y, h1, h2, h3, h4, h5, d, hd⟩ := conflict_atN h
  rw [cchain_pos h2 h3, chn_length]
  have hF : ((farL m C y).getD x 0).toNat < m := by
    by_cases hex : ∃ F, FarL m C y F
    · obtain ⟨F, hF⟩ := hex
      rw [← hF.eq]
      rcases hF.2 x (by omega) with ⟨g, _⟩ | ⟨e, g1, g2⟩
      · rw [g]; show 0 < m; omega
      · have := isD_lt h5 (areCons_adj ha) g2
        omega
    · rw [farL, dif_neg hex]
      simp; omega
  omega

theorem Try.specChain_f (n : Int) (C : List Con) (hC : C.length ≤ 1048576) (h : 0 ≤ conflict n C) : FCall Try.prog 25 [.val (.int .i64 n), rc C] (FlatRes (cchain n C).length 1 (ints (cchain n C))) := by
  have ha := conflict_con h
  obtain ⟨m, rfl, h8, h1⟩ := cchain_n h
  obtain ⟨k, x, y, hk, hcf, hc, hxy, hy, hd⟩ := conflict_atN h
  have wF := Try.specFind_ok m C hC (by omega) (by omega)
  have wC := Try.l18Chain_f m x y C ha (by omega) hy hd
  rw [hcf] at wF
  rw [cchain_pos hcf hc]
  obtain ⟨q1, q2, q3, q4⟩ := cons_of hk hc
  refine FCall.of_body Try.func25 rfl (by kernel_rfl) (by simp [Try.ntmps25]) ?_
  refine SW_of_vc3 [4] Try.mixed _ _ _ (by kernel_rfl) ?_
  simp (disch := omega) only [Try.ntmps25, Try.results25, go_sem, Nat.reduceLT, Nat.reduceLeDiff, Nat.reduceEqDiff, Nat.reduceAdd, Nat.reduceSub, Nat.reduceMul, reduceIte, ↓reduceIte, reduceCtorEq, Int.reduceToNat, Int.reduceLE, Int.reduceLT, Int.reduceNeg, Int.reduceSub, Int.reduceAdd, Int.reduceMul, rc]
  refine wF.callV 0 (viewL_cons_of (view_int) (viewL_cons_of (view_row) viewL_nil_of)) ?_
  simp (disch := omega) only [Try.ntmps25, Try.results25, go_sem, Nat.reduceLT, Nat.reduceLeDiff, Nat.reduceEqDiff, Nat.reduceAdd, Nat.reduceSub, Nat.reduceMul, reduceIte, ↓reduceIte, reduceCtorEq, Int.reduceToNat, Int.reduceLE, Int.reduceLT, Int.reduceNeg, Int.reduceSub, Int.reduceAdd, Int.reduceMul, rc, q1, q2, q3]
  refine CallN.of (wC.one.callOne (ints_vals _) 0 (viewL_cons_of (view_int) (viewL_cons_of (view_row) (viewL_cons_of (view_int) (viewL_cons_of (view_int) viewL_nil_of)))) ⟨rfl, rfl⟩) ?_
  simp (disch := omega) only [Try.ntmps25, Try.results25, go_sem, Nat.reduceLT, Nat.reduceLeDiff, Nat.reduceEqDiff, Nat.reduceAdd, Nat.reduceSub, Nat.reduceMul, reduceIte, ↓reduceIte, reduceCtorEq, Int.reduceToNat, Int.reduceLE, Int.reduceLT, Int.reduceNeg, Int.reduceSub, Int.reduceAdd, Int.reduceMul, rc]
  exact fin_ints rfl (by first | rfl | (simp (disch := omega) only [hx_map, hp_map, xmap_blk, hmap_cons, xmap_skipI, xmap_nil, if_pos, if_neg, ↓reduceIte]; try rfl))
theorem Try.specChain_n (n : Int) (C : List Con) (hC : C.length ≤ 1048576) (z1 : -9223372036854775808 ≤ n) (z2 : n ≤ 9223372036854775807) (h : ¬ 0 ≤ conflict n C) : FCall Try.prog 25 [.val (.int .i64 n), rc C] (FlatRes 0 1 (ints [])) := by
  have wF := Try.specFind_ok n C hC z1 z2
  refine FCall.of_body Try.func25 rfl (by kernel_rfl) (by simp [Try.ntmps25]) ?_
  refine SW_of_vc Try.mixed _ _ _ (by kernel_rfl) ?_
  simp (disch := omega) only [Try.ntmps25, Try.results25, go_sem, Nat.reduceLT, Nat.reduceLeDiff, Nat.reduceEqDiff, Nat.reduceAdd, Nat.reduceSub, Nat.reduceMul, reduceIte, ↓reduceIte, reduceCtorEq, Int.reduceToNat, Int.reduceLE, Int.reduceLT, Int.reduceNeg, Int.reduceSub, Int.reduceAdd, Int.reduceMul, rc]
  refine wF.callV 0 (viewL_cons_of (view_int) (viewL_cons_of (view_row) viewL_nil_of)) ?_
  simp (disch := omega) only [Try.ntmps25, Try.results25, go_sem, Nat.reduceLT, Nat.reduceLeDiff, Nat.reduceEqDiff, Nat.reduceAdd, Nat.reduceSub, Nat.reduceMul, reduceIte, ↓reduceIte, reduceCtorEq, Int.reduceToNat, Int.reduceLE, Int.reduceLT, Int.reduceNeg, Int.reduceSub, Int.reduceAdd, Int.reduceMul, rc]
  exact fin_ints (L := []) rfl (by first | rfl | (simp (disch := omega) only [hx_map, hp_map, xmap_blk, hmap_cons, xmap_skipI, xmap_nil, if_pos, if_neg, ↓reduceIte]; try rfl))
theorem Try.specChain_ok (n : Int) (C : List Con) (hC : C.length ≤ 1048576) (z1 : -9223372036854775808 ≤ n) (z2 : n ≤ 9223372036854775807) : PCall Try.prog 25 [.val (.int .i64 n), rc C] (ri (cchain n C)) := by
  by_cases h : 0 ≤ conflict n C
  · exact (Try.specChain_f n C hC h).pcall 2 (fun _ _ h => flat_view h)
  · rw [cchain_neg h]; exact (Try.specChain_n n C hC z1 z2 h).pcall 2 (fun _ _ h => flat_view h)
theorem Try.implChain_one (n : Int) (C : List Con) (h : 0 ≤ conflict n C) : FCall Try.prog 27 [.val (.int .i64 n), rc C] (OneRes (cchain n C).length 1 (ints (cchain n C))) := by
  have ha := conflict_con h
  obtain ⟨m, rfl, h8, h1⟩ := cchain_n h
  obtain ⟨k, x, y, hk, hcf, hc, hxy, hy, hd⟩ := conflict_atN h
  rw [cchain_pos hcf hc]
  exact (Try.implChain_f m C ha k x y hk hcf hc hxy hy hd).one
theorem Try.implChain_nil (n : Int) (C : List Con) (hC : C.length ≤ 1048576) (h : ¬ 0 ≤ conflict n C) : FCall Try.prog 27 [.val (.int .i64 n), rc C] (fun r _ => r = .val (.slice none 0 0)) := by
  have wF := Try.implFind_ok n C hC
  refine FCall.of_body Try.func27 rfl (by kernel_rfl) (by simp [Try.ntmps27]) ?_
  refine SW_of_vc Try.mixed _ _ _ (by kernel_rfl) ?_
  simp (disch := omega) only [Try.ntmps27, Try.results27, go_sem, Nat.reduceLT, Nat.reduceLeDiff, Nat.reduceEqDiff, Nat.reduceAdd, Nat.reduceSub, Nat.reduceMul, reduceIte, ↓reduceIte, reduceCtorEq, Int.reduceToNat, Int.reduceLE, Int.reduceLT, Int.reduceNeg, Int.reduceSub, Int.reduceAdd, Int.reduceMul, rc]
  refine wF.callV 0 (viewL_cons_of (view_int) (viewL_cons_of (view_row) viewL_nil_of)) ?_
  simp (disch := omega) only [Try.ntmps27, Try.results27, go_sem, Nat.reduceLT, Nat.reduceLeDiff, Nat.reduceEqDiff, Nat.reduceAdd, Nat.reduceSub, Nat.reduceMul, reduceIte, ↓reduceIte, reduceCtorEq, Int.reduceToNat, Int.reduceLE, Int.reduceLT, Int.reduceNeg, Int.reduceSub, Int.reduceAdd, Int.reduceMul, rc]
  exact Fin.val rfl
theorem Try.implChain_ok (n : Int) (C : List Con) (hC : C.length ≤ 1048576) : PCall Try.prog 27 [.val (.int .i64 n), rc C] (ri (cchain n C)) := by
  by_cases h : 0 ≤ conflict n C
  · exact (Try.implChain_one n C h).pcall 2 (fun _ _ h => one_view h rfl)
  · rw [cchain_neg h]; exact (Try.implChain_nil n C hC h).pcall 0 (by rintro r H rfl; exact view_nil)
end Go.Sh

/-
  Chains of conflicts, and what constraints imply: plain.
-/
namespace Go.Sh
set_option linter.unusedSimpArgs false
set_option linter.unusedVariables false
open Go Go.Proofs

open Classical in
theorem farL_ok {n : Nat} {C : List Con} {b : Nat} : FarL n C b (farL n C b) := by
  have hex : ∃ F, FarL n C b F := by
    refine ⟨(List.range n).map fun x => if h : ∃ d, IsD C b x d then ((Classical.choose h : Nat) : Int) else -1, by simp, fun x hx => ?_⟩
    have e : ((List.range n).map fun x => if h : ∃ d, IsD C b x d then ((Classical.choose h : Nat) : Int) else -1).getD x 0 = if h : ∃ d, IsD C b x d then ((Classical.choose h : Nat) : Int) else -1 := by simp [hx]
    rw [e]
    split
    · rename_i h
      exact .inr ⟨_, rfl, Classical.choose_spec h⟩
    · rename_i h
      exact .inl ⟨rfl, fun d hd => by
        obtain ⟨e, _, hD⟩ := isD_of d hd
        exact h ⟨e, hD⟩⟩
  obtain ⟨F, hF⟩ := hex
  rw [← hF.eq]; exact hF
theorem chn_head (n : Nat) (C : List Con) (F : List Int) (d a : Nat) : (chn n C F d a).getD 0 0 = (a : Int) := by cases d <;> rfl
theorem chn_facts {n : Nat} {C : List Con} {b : Nat} {F : List Int} (h : FarL n C b F) (ha : ∀ x y, adjC C x y → y < n) : ∀ (d a : Nat), a < n → F.getD a 0 = (d : Int) →
    (chn n C F d a).getD d 0 = (b : Int) ∧ ∀ i, i < d → ∃ p q : Nat, (chn n C F d a).getD i 0 = (p : Int) ∧ (chn n C F d a).getD (i + 1) 0 = (q : Int) ∧ mustB C p q = true
  | 0, a, hn, hF => by
    refine ⟨?_, fun i hi => by omega⟩
    rcases h.2 a hn with ⟨h1, _⟩ | ⟨e, h1, h2⟩
    · omega
    · obtain rfl : e = 0 := by omega
      have : a = b := isD_zero.1 h2
      subst this; rfl
  | d + 1, a, hn, hF => by
    obtain ⟨k1, k2, k3⟩ := h.pkn ha hn hF
    obtain ⟨g1, g2⟩ := chn_facts h ha d _ k1 k2
    refine ⟨by rw [chn]; simpa using g1, fun i hi => ?_⟩
    cases i with
    | zero => exact ⟨a, pkn n C F a, rfl, by rw [chn]; simpa using chn_head n C F d _, k3⟩
    | succ i =>
      obtain ⟨p, q, e1, e2, e3⟩ := g2 i (by omega)
      exact ⟨p, q, by rw [chn]; simpa using e1, by rw [chn]; simpa using e2, e3⟩
/-- A conflict, and its chain. -/
theorem cchain_facts {n : Int} {C : List Con} (h : 0 ≤ conflict n C) : ∃ k x y d : Nat, k < C.length ∧ conflict n C = (k : Int) ∧ cg C k = ((x : Int), (y : Int), false) ∧ (cchain n C).length = d + 1 ∧ (cchain n C).getD 0 0 = (x : Int) ∧ (cchain n C).getD d 0 = (y : Int) ∧
    ∀ i, i < d → ∃ p q : Nat, (cchain n C).getD i 0 = (p : Int) ∧ (cchain n C).getD (i + 1) 0 = (q : Int) ∧ mustB C p q = true := by
  have ha := conflict_con h
  obtain ⟨m, rfl, h8, h1⟩ := cchain_n h
  obtain ⟨k, x, y, hk, hcf, hc, hxy, hy, d, hd⟩ := conflict_atN h
  have hF : FarL m C y (farL m C y) := farL_ok
  have hFd : (farL m C y).getD x 0 = (d : Int) := by
    rcases hF.2 x (by omega) with ⟨_, h2⟩ | ⟨e, h1, h2⟩
    · exact absurd hd.1 (h2 d)
    · rw [h1, isD_uniq h2 hd]
  rw [cchain_pos hcf hc, hFd, Int.toNat_natCast]
  obtain ⟨f1, f2⟩ := chn_facts hF (areCons_adj ha) d x (by omega) hFd
  exact ⟨k, x, y, d, hk, hcf, hc, chn_length _ _ _ _ _, chn_head _ _ _ _ _, f1, f2⟩
theorem kp_at {p : List Int} {c : Con} (h : kp p c = true) : decide (p.getD c.1.toNat 0 = p.getD c.2.1.toNat 0) = c.2.2 := by
  rw [kp] at h
  simp only [Bool.and_eq_true] at h
  exact eq_of_beq h.2.2
theorem kp_rch {n : Nat} {C : List Con} {p : List Int} (hk : C.all (kp p) = true) {a b : Nat} (h : Rch n (mustB C) a b) : p.getD a 0 = p.getD b 0 := by
  induction h with
  | refl => rfl
  | tail _ _ _ hb ih =>
    rw [ih]
    rw [mustB, List.any_eq_true] at hb
    obtain ⟨c, hc, hl⟩ := hb
    have := kp_at (List.all_eq_true.1 hk c hc)
    simp only [linkB, Bool.and_eq_true, Bool.or_eq_true, decide_eq_true_eq] at hl
    rw [hl.1] at this
    have := of_decide_eq_true this
    rcases hl.2 with ⟨e1, e2⟩ | ⟨e1, e2⟩
    · rw [e1, e2] at this; simpa using this
    · rw [e1, e2] at this; simpa using this.symm
theorem rel_facts {n : Nat} {C : List Con} {p : List Int} (ha : areCons n C = true) (hk : C.all (kp p) = true) {a b : Nat} (hna : a < n) (hnb : b < n) : (relOf n C a b = 1 → p.getD a 0 = p.getD b 0) ∧ (relOf n C a b = -1 → p.getD a 0 ≠ p.getD b 0) := by
  have same : ∀ x y : Nat, x < n → y < n → (must n C).getD x 0 = (must n C).getD y 0 → p.getD x 0 = p.getD y 0 := fun x y hx hy h => by
    rw [must_t ha] at h
    exact kp_rch hk ((must_ok.iff x y (by omega) (by omega)).1 h)
  unfold relOf
  split
  · rename_i hc
    simp only [Int.toNat_natCast]
    split
    · rename_i he
      exact ⟨fun _ => same a b hna hnb he, fun h => by omega⟩
    · split
      · rename_i hany
        refine ⟨fun h => by omega, fun _ => ?_⟩
        rw [List.any_eq_true] at hany
        obtain ⟨c, hc, hf⟩ := hany
        obtain ⟨_, _, hg⟩ := areCons_t ha
        obtain ⟨g1, g2, g3⟩ := hg c hc
        have hkp := kp_at (List.all_eq_true.1 hk c hc)
        simp only [apF, Bool.and_eq_true, Bool.not_eq_true', Bool.or_eq_true, decide_eq_true_eq] at hf
        rw [hf.1] at hkp
        have hne := of_decide_eq_false hkp
        rcases hf.2 with ⟨e1, e2⟩ | ⟨e1, e2⟩
        · rw [same _ a (by omega) hna e1, same _ b (by omega) hnb e2] at hne; exact hne
        · rw [same _ b (by omega) hnb e1, same _ a (by omega) hna e2] at hne; exact fun h => hne h.symm
      · exact ⟨fun h => by omega, fun h => by omega⟩
  · exact ⟨fun h => by omega, fun h => by omega⟩
end Go.Sh

/-
  The law FnConstraints, walked: a conflict chain consists of must-link constraints between the two items of a cannot-link constraint, and implied relations hold in every partition that keeps the constraints.
-/
namespace Go.Sh
set_option linter.unusedSimpArgs false
set_option linter.unusedVariables false
open Go Go.RowKit Go.Proofs

theorem mustB_nil (x y : Nat) : mustB [] x y = false := rfl
set_option maxRecDepth 20000 in
set_option maxHeartbeats 8000000 in
theorem Try.fnConstraints_ok (B : List Int) (hBw : B.length ≤ 9223372036854775807) : PCall Try.prog 13 [rby B] (.val (.bool true)) := by
  have wbig := Try.big_ok B hBw
  refine FCall.pcall (R := fun r _ => r = .val (.bool true)) ?_ 0 (by rintro r H rfl; exact view_bool)
  refine FCall.of_body Try.func13 rfl (by kernel_rfl) (by simp [Try.ntmps13]) ?_
  refine SW.seqW ⟨ofL [(0, rby B)], hp [] 0⟩ ?_ ?_
  · refine SW_of_vc Try.mixed _ _ _ (by kernel_rfl) ?_
    simp (disch := omega) only [Try.ntmps13, Try.results13, go_sem, Nat.reduceLT, Nat.reduceLeDiff, Nat.reduceEqDiff, Nat.reduceAdd, Nat.reduceSub, Nat.reduceMul, reduceIte, ↓reduceIte, reduceCtorEq, Int.reduceToNat, Int.reduceLE, Int.reduceLT, Int.reduceNeg, Int.reduceSub, Int.reduceAdd, Int.reduceMul, rby, rr_eq, rc, bne_self_eq_false, beq_self_eq_true]
    exact Wk.of (by simp only [go_sem, ↓List.forall_mem_cons, List.not_mem_nil, false_implies, implies_true, and_true, true_and, and_self, Nat.reduceEqDiff, reduceIte, ↓reduceIte, ri_eq, Int.natCast_add, Int.cast_ofNat_Int, rby]; try simp) rfl
  by_cases hB : 1048576 < B.length
  · rw [decide_eq_true hB] at wbig
    refine SW_of_vc Try.mixed _ _ _ (by kernel_rfl) ?_
    simp (disch := omega) only [Try.ntmps13, Try.results13, go_sem, Nat.reduceLT, Nat.reduceLeDiff, Nat.reduceEqDiff, Nat.reduceAdd, Nat.reduceSub, Nat.reduceMul, reduceIte, ↓reduceIte, reduceCtorEq, Int.reduceToNat, Int.reduceLE, Int.reduceLT, Int.reduceNeg, Int.reduceSub, Int.reduceAdd, Int.reduceMul, rby, rr_eq, rc, bne_self_eq_false, beq_self_eq_true]
    refine wbig.callV 0 (viewL_cons_of (view_row) viewL_nil_of) ?_
    simp (disch := omega) only [Try.ntmps13, Try.results13, go_sem, Nat.reduceLT, Nat.reduceLeDiff, Nat.reduceEqDiff, Nat.reduceAdd, Nat.reduceSub, Nat.reduceMul, reduceIte, ↓reduceIte, reduceCtorEq, Int.reduceToNat, Int.reduceLE, Int.reduceLT, Int.reduceNeg, Int.reduceSub, Int.reduceAdd, Int.reduceMul, rby, rr_eq, rc, bne_self_eq_false, beq_self_eq_true]
    exact Fin.val rfl
  rw [decide_eq_false hB] at wbig
  have hB : B.length ≤ 1048576 := by omega
  refine SW.seqW ⟨ofL [(0, rby B)], hp [] 0⟩ ?_ ?_
  · refine SW_of_vc Try.mixed _ _ _ (by kernel_rfl) ?_
    simp (disch := omega) only [Try.ntmps13, Try.results13, go_sem, Nat.reduceLT, Nat.reduceLeDiff, Nat.reduceEqDiff, Nat.reduceAdd, Nat.reduceSub, Nat.reduceMul, reduceIte, ↓reduceIte, reduceCtorEq, Int.reduceToNat, Int.reduceLE, Int.reduceLT, Int.reduceNeg, Int.reduceSub, Int.reduceAdd, Int.reduceMul, rby, rr_eq, rc, bne_self_eq_false, beq_self_eq_true]
    refine wbig.callV 0 (viewL_cons_of (view_row) viewL_nil_of) ?_
    simp (disch := omega) only [Try.ntmps13, Try.results13, go_sem, Nat.reduceLT, Nat.reduceLeDiff, Nat.reduceEqDiff, Nat.reduceAdd, Nat.reduceSub, Nat.reduceMul, reduceIte, ↓reduceIte, reduceCtorEq, Int.reduceToNat, Int.reduceLE, Int.reduceLT, Int.reduceNeg, Int.reduceSub, Int.reduceAdd, Int.reduceMul, rby, rr_eq, rc, bne_self_eq_false, beq_self_eq_true]
    exact Wk.of (by simp only [go_sem, ↓List.forall_mem_cons, List.not_mem_nil, false_implies, implies_true, and_true, true_and, and_self, Nat.reduceEqDiff, reduceIte, ↓reduceIte, ri_eq, Int.natCast_add, Int.cast_ofNat_Int, rby]; try simp) rfl
  refine SW.seqI (fun y : Int × List Con => ⟨ofL [(0, rby B), (3, .val (.int .i64 y.1)), (4, rc y.2)], hp [] 0⟩) (fun y => 0 ≤ y.1 ∧ y.1 ≤ 9 ∧ y.2.length ≤ 5) ?_ ?_
  · refine SW_of_vc Try.mixed _ _ _ (by kernel_rfl) ?_
    simp (disch := omega) only [Try.ntmps13, Try.results13, go_sem, Nat.reduceLT, Nat.reduceLeDiff, Nat.reduceEqDiff, Nat.reduceAdd, Nat.reduceSub, Nat.reduceMul, reduceIte, ↓reduceIte, reduceCtorEq, Int.reduceToNat, Int.reduceLE, Int.reduceLT, Int.reduceNeg, Int.reduceSub, Int.reduceAdd, Int.reduceMul, rby, rr_eq, rc, bne_self_eq_false, beq_self_eq_true]
    refine (Try.drawChain_e B hB).callE 0 (viewL_cons_of (view_row) viewL_nil_of) ?_
    rintro T ⟨n, C, rfl, n1, n2, hC⟩
    simp (disch := omega) only [Try.ntmps13, Try.results13, go_sem, Nat.reduceLT, Nat.reduceLeDiff, Nat.reduceEqDiff, Nat.reduceAdd, Nat.reduceSub, Nat.reduceMul, reduceIte, ↓reduceIte, reduceCtorEq, Int.reduceToNat, Int.reduceLE, Int.reduceLT, Int.reduceNeg, Int.reduceSub, Int.reduceAdd, Int.reduceMul, rby, rr_eq, rc, bne_self_eq_false, beq_self_eq_true]
    exact ⟨(n, C), ⟨n1, n2, hC⟩, Wk.of (by simp only [go_sem, ↓List.forall_mem_cons, List.not_mem_nil, false_implies, implies_true, and_true, true_and, and_self, Nat.reduceEqDiff, reduceIte, ↓reduceIte, ri_eq, Int.natCast_add, Int.cast_ofNat_Int, rby, rc]; try simp) rfl⟩
  rintro ⟨n, C⟩ ⟨n1, n2, hC5⟩
  simp only at n1 n2 hC5
  have hC : C.length ≤ 1048576 := by omega
  have w1 := Try.implChain_ok n C hC
  have w2 := Try.specChain_ok n C hC (by omega) (by omega)
  have w3 := Try.implFind_ok n C hC
  have w4 := Try.specFind_ok n C hC (by omega) (by omega)
  have w5 := Try.implConsistent_ok n C hC
  have w6 := Try.specConsistent_ok n C hC (by omega) (by omega)
  have w7 := Try.implMust_ok n C hC
  have w8 := Try.specMust_ok n C hC (by omega) (by omega)
  have hKl : (cchain n C).length ≤ 8 := by
    by_cases h : 0 ≤ conflict n C
    · exact cchain_len h
    · rw [cchain_neg h]; simp
  have hml : (must n C).length ≤ 1048576 := by
    rcases Bool.eq_false_or_eq_true (areCons n C) with h | h
    · have := must_length h
      omega
    · rw [must_f h]; simp
  have ws := Try.sameInts_ok (cchain n C) (by omega)
  have wt := Try.sameInts_ok (must n C) hml
  have hfacts := cchain_facts (n := n) (C := C)
  have hneg := cchain_neg (n := n) (C := C)
  have hcon := conflict_con (n := n) (C := C)
  generalize cchain n C = K at *
  generalize conflict n C = k at *
  generalize must n C = U at *
  generalize isCst n C = ic at *
  refine SW.seqW ⟨ofL [(0, rby B), (3, .val (.int .i64 n)), (4, rc C), (5, ri K)], hp [] 0⟩ ?_ ?_
  · refine SW_of_vc Try.mixed _ _ _ (by kernel_rfl) ?_
    simp (disch := omega) only [Try.ntmps13, Try.results13, go_sem, Nat.reduceLT, Nat.reduceLeDiff, Nat.reduceEqDiff, Nat.reduceAdd, Nat.reduceSub, Nat.reduceMul, reduceIte, ↓reduceIte, reduceCtorEq, Int.reduceToNat, Int.reduceLE, Int.reduceLT, Int.reduceNeg, Int.reduceSub, Int.reduceAdd, Int.reduceMul, rby, rr_eq, rc, bne_self_eq_false, beq_self_eq_true]
    refine w1.callV 0 (viewL_cons_of (view_int) (viewL_cons_of (view_row) viewL_nil_of)) ?_
    simp (disch := omega) only [Try.ntmps13, Try.results13, go_sem, Nat.reduceLT, Nat.reduceLeDiff, Nat.reduceEqDiff, Nat.reduceAdd, Nat.reduceSub, Nat.reduceMul, reduceIte, ↓reduceIte, reduceCtorEq, Int.reduceToNat, Int.reduceLE, Int.reduceLT, Int.reduceNeg, Int.reduceSub, Int.reduceAdd, Int.reduceMul, rby, rr_eq, rc, bne_self_eq_false, beq_self_eq_true]
    exact Wk.of (by simp only [go_sem, ↓List.forall_mem_cons, List.not_mem_nil, false_implies, implies_true, and_true, true_and, and_self, Nat.reduceEqDiff, reduceIte, ↓reduceIte, ri_eq, Int.natCast_add, Int.cast_ofNat_Int, rby, rc]; try simp) rfl
  refine SW.seqW ⟨ofL [(0, rby B), (3, .val (.int .i64 n)), (4, rc C), (5, ri K), (6, .val (.int .i64 k))], hp [] 0⟩ ?_ ?_
  · refine SW_of_vc Try.mixed _ _ _ (by kernel_rfl) ?_
    simp (disch := omega) only [Try.ntmps13, Try.results13, go_sem, Nat.reduceLT, Nat.reduceLeDiff, Nat.reduceEqDiff, Nat.reduceAdd, Nat.reduceSub, Nat.reduceMul, reduceIte, ↓reduceIte, reduceCtorEq, Int.reduceToNat, Int.reduceLE, Int.reduceLT, Int.reduceNeg, Int.reduceSub, Int.reduceAdd, Int.reduceMul, rby, rr_eq, rc, bne_self_eq_false, beq_self_eq_true]
    refine w3.callV 0 (viewL_cons_of (view_int) (viewL_cons_of (view_row) viewL_nil_of)) ?_
    simp (disch := omega) only [Try.ntmps13, Try.results13, go_sem, Nat.reduceLT, Nat.reduceLeDiff, Nat.reduceEqDiff, Nat.reduceAdd, Nat.reduceSub, Nat.reduceMul, reduceIte, ↓reduceIte, reduceCtorEq, Int.reduceToNat, Int.reduceLE, Int.reduceLT, Int.reduceNeg, Int.reduceSub, Int.reduceAdd, Int.reduceMul, rby, rr_eq, rc, bne_self_eq_false, beq_self_eq_true]
    exact Wk.of (by simp only [go_sem, ↓List.forall_mem_cons, List.not_mem_nil, false_implies, implies_true, and_true, true_and, and_self, Nat.reduceEqDiff, reduceIte, ↓reduceIte, ri_eq, Int.natCast_add, Int.cast_ofNat_Int, rby, rc]; try simp) rfl
  refine SW.seqW ⟨ofL [(0, rby B), (4, rc C), (5, ri K), (6, .val (.int .i64 k))], hp [] 0⟩ ?_ ?_
  · refine SW_of_vc Try.mixed _ _ _ (by kernel_rfl) ?_
    simp (disch := omega) only [Try.ntmps13, Try.results13, go_sem, Nat.reduceLT, Nat.reduceLeDiff, Nat.reduceEqDiff, Nat.reduceAdd, Nat.reduceSub, Nat.reduceMul, reduceIte, ↓reduceIte, reduceCtorEq, Int.reduceToNat, Int.reduceLE, Int.reduceLT, Int.reduceNeg, Int.reduceSub, Int.reduceAdd, Int.reduceMul, rby, rr_eq, rc, bne_self_eq_false, beq_self_eq_true]
    refine w2.callV 0 (viewL_cons_of (view_int) (viewL_cons_of (view_row) viewL_nil_of)) ?_
    simp (disch := omega) only [Try.ntmps13, Try.results13, go_sem, Nat.reduceLT, Nat.reduceLeDiff, Nat.reduceEqDiff, Nat.reduceAdd, Nat.reduceSub, Nat.reduceMul, reduceIte, ↓reduceIte, reduceCtorEq, Int.reduceToNat, Int.reduceLE, Int.reduceLT, Int.reduceNeg, Int.reduceSub, Int.reduceAdd, Int.reduceMul, rby, rr_eq, rc, bne_self_eq_false, beq_self_eq_true]
    refine ws.callV 0 (viewL_cons_of (view_row) (viewL_cons_of (view_row) viewL_nil_of)) ?_
    simp (disch := omega) only [Try.ntmps13, Try.results13, go_sem, Nat.reduceLT, Nat.reduceLeDiff, Nat.reduceEqDiff, Nat.reduceAdd, Nat.reduceSub, Nat.reduceMul, reduceIte, ↓reduceIte, reduceCtorEq, Int.reduceToNat, Int.reduceLE, Int.reduceLT, Int.reduceNeg, Int.reduceSub, Int.reduceAdd, Int.reduceMul, rby, rr_eq, rc, bne_self_eq_false, beq_self_eq_true]
    refine w4.callV 0 (viewL_cons_of (view_int) (viewL_cons_of (view_row) viewL_nil_of)) ?_
    simp (disch := omega) only [Try.ntmps13, Try.results13, go_sem, Nat.reduceLT, Nat.reduceLeDiff, Nat.reduceEqDiff, Nat.reduceAdd, Nat.reduceSub, Nat.reduceMul, reduceIte, ↓reduceIte, reduceCtorEq, Int.reduceToNat, Int.reduceLE, Int.reduceLT, Int.reduceNeg, Int.reduceSub, Int.reduceAdd, Int.reduceMul, rby, rr_eq, rc, bne_self_eq_false, beq_self_eq_true]
    refine w5.callV 0 (viewL_cons_of (view_int) (viewL_cons_of (view_row) viewL_nil_of)) ?_
    simp (disch := omega) only [Try.ntmps13, Try.results13, go_sem, Nat.reduceLT, Nat.reduceLeDiff, Nat.reduceEqDiff, Nat.reduceAdd, Nat.reduceSub, Nat.reduceMul, reduceIte, ↓reduceIte, reduceCtorEq, Int.reduceToNat, Int.reduceLE, Int.reduceLT, Int.reduceNeg, Int.reduceSub, Int.reduceAdd, Int.reduceMul, rby, rr_eq, rc, bne_self_eq_false, beq_self_eq_true]
    refine w6.callV 0 (viewL_cons_of (view_int) (viewL_cons_of (view_row) viewL_nil_of)) ?_
    simp (disch := omega) only [Try.ntmps13, Try.results13, go_sem, Nat.reduceLT, Nat.reduceLeDiff, Nat.reduceEqDiff, Nat.reduceAdd, Nat.reduceSub, Nat.reduceMul, reduceIte, ↓reduceIte, reduceCtorEq, Int.reduceToNat, Int.reduceLE, Int.reduceLT, Int.reduceNeg, Int.reduceSub, Int.reduceAdd, Int.reduceMul, rby, rr_eq, rc, bne_self_eq_false, beq_self_eq_true]
    refine w7.callV 0 (viewL_cons_of (view_int) (viewL_cons_of (view_row) viewL_nil_of)) ?_
    simp (disch := omega) only [Try.ntmps13, Try.results13, go_sem, Nat.reduceLT, Nat.reduceLeDiff, Nat.reduceEqDiff, Nat.reduceAdd, Nat.reduceSub, Nat.reduceMul, reduceIte, ↓reduceIte, reduceCtorEq, Int.reduceToNat, Int.reduceLE, Int.reduceLT, Int.reduceNeg, Int.reduceSub, Int.reduceAdd, Int.reduceMul, rby, rr_eq, rc, bne_self_eq_false, beq_self_eq_true]
    refine w8.callV 0 (viewL_cons_of (view_int) (viewL_cons_of (view_row) viewL_nil_of)) ?_
    simp (disch := omega) only [Try.ntmps13, Try.results13, go_sem, Nat.reduceLT, Nat.reduceLeDiff, Nat.reduceEqDiff, Nat.reduceAdd, Nat.reduceSub, Nat.reduceMul, reduceIte, ↓reduceIte, reduceCtorEq, Int.reduceToNat, Int.reduceLE, Int.reduceLT, Int.reduceNeg, Int.reduceSub, Int.reduceAdd, Int.reduceMul, rby, rr_eq, rc, bne_self_eq_false, beq_self_eq_true]
    refine wt.callV 0 (viewL_cons_of (view_row) (viewL_cons_of (view_row) viewL_nil_of)) ?_
    simp (disch := omega) only [Try.ntmps13, Try.results13, go_sem, Nat.reduceLT, Nat.reduceLeDiff, Nat.reduceEqDiff, Nat.reduceAdd, Nat.reduceSub, Nat.reduceMul, reduceIte, ↓reduceIte, reduceCtorEq, Int.reduceToNat, Int.reduceLE, Int.reduceLT, Int.reduceNeg, Int.reduceSub, Int.reduceAdd, Int.reduceMul, rby, rr_eq, rc, bne_self_eq_false, beq_self_eq_true]
    exact Wk.of (by simp only [go_sem, ↓List.forall_mem_cons, List.not_mem_nil, false_implies, implies_true, and_true, true_and, and_self, Nat.reduceEqDiff, reduceIte, ↓reduceIte, ri_eq, Int.natCast_add, Int.cast_ofNat_Int, rby, rc]; try simp) rfl
  have hiK := ints_length K
  refine SW.seqW ⟨ofL [(0, rby B), (4, rc C), (5, ri K)], hp [] 0⟩ ?_ ?_
  · by_cases hk : 0 ≤ k
    · obtain ⟨m, x, y, d, hm, rfl, hc, hl, g0, gd, _⟩ := hfacts hk
      obtain ⟨q1, q2, q3, _⟩ := cons_of hm hc
      have lC := cons_length C
      have e0 : (ints K)[0]? = some (.val (.int .i64 (x : Int))) := by rw [ints_get (by omega), g0]
      have e1 : (ints K)[d]? = some (.val (.int .i64 (y : Int))) := by rw [ints_get (by omega), gd]
      have e2 : ((K.length : Int)) - 1 = (d : Int) := by omega
      refine SW_of_vc Try.mixed _ _ _ (by kernel_rfl) ?_
      simp (disch := omega) only [Try.ntmps13, Try.results13, go_sem, Nat.reduceLT, Nat.reduceLeDiff, Nat.reduceEqDiff, Nat.reduceAdd, Nat.reduceSub, Nat.reduceMul, reduceIte, ↓reduceIte, reduceCtorEq, Int.reduceToNat, Int.reduceLE, Int.reduceLT, Int.reduceNeg, Int.reduceSub, Int.reduceAdd, Int.reduceMul, rby, rr_eq, rc, bne_self_eq_false, beq_self_eq_true, q1, q2, q3, e0, e1, e2, lC, hiK]
      exact Wk.of (by simp only [go_sem, ↓List.forall_mem_cons, List.not_mem_nil, false_implies, implies_true, and_true, true_and, and_self, Nat.reduceEqDiff, reduceIte, ↓reduceIte, ri_eq, Int.natCast_add, Int.cast_ofNat_Int, rby, rc]; try simp) rfl
    · have hK := hneg hk
      have hK0 : K.length = 0 := by rw [hK]; rfl
      refine SW_of_vc Try.mixed _ _ _ (by kernel_rfl) ?_
      simp (disch := omega) only [Try.ntmps13, Try.results13, go_sem, Nat.reduceLT, Nat.reduceLeDiff, Nat.reduceEqDiff, Nat.reduceAdd, Nat.reduceSub, Nat.reduceMul, reduceIte, ↓reduceIte, reduceCtorEq, Int.reduceToNat, Int.reduceLE, Int.reduceLT, Int.reduceNeg, Int.reduceSub, Int.reduceAdd, Int.reduceMul, rby, rr_eq, rc, bne_self_eq_false, beq_self_eq_true]
      exact Wk.of (by simp only [go_sem, ↓List.forall_mem_cons, List.not_mem_nil, false_implies, implies_true, and_true, true_and, and_self, Nat.reduceEqDiff, reduceIte, ↓reduceIte, ri_eq, Int.natCast_add, Int.cast_ofNat_Int, rby, rc]; try simp) rfl
  have hlink : ∀ i, i + 1 < K.length → (∃ m : Nat, n = m ∧ areCons m C = true) ∧ ∃ p q : Nat, K.getD i 0 = (p : Int) ∧ K.getD (i + 1) 0 = (q : Int) ∧ mustB C p q = true := fun i hi => by
    by_cases hk : 0 ≤ k
    · obtain ⟨m, x, y, d, hm, rfl, hc, hl, g0, gd, g⟩ := hfacts hk
      have ha := hcon hk
      exact ⟨⟨n.toNat, by omega, by rw [Int.toNat_of_nonneg n1]; exact ha⟩, g i (by omega)⟩
    · rw [hneg hk] at hi; simp at hi
  refine SW.seqW ⟨ofL [(0, rby B)], hp [] 0⟩ ?_ ?_
  · refine SW_of_vc Try.mixed _ _ _ (by kernel_rfl) ?_
    simp (disch := omega) only [Try.ntmps13, Try.results13, go_sem, Nat.reduceLT, Nat.reduceLeDiff, Nat.reduceEqDiff, Nat.reduceAdd, Nat.reduceSub, Nat.reduceMul, reduceIte, ↓reduceIte, reduceCtorEq, Int.reduceToNat, Int.reduceLE, Int.reduceLT, Int.reduceNeg, Int.reduceSub, Int.reduceAdd, Int.reduceMul, rby, rr_eq, rc, bne_self_eq_false, beq_self_eq_true]
    refine LoopW.loop (fun i : Nat => ⟨ofL [(0, rby B), (4, rc C), (5, ri K), (7, .val (.int .i64 i))], hp [] 0⟩) (fun i => i ≤ K.length) (fun i => K.length - i) 0 (by omega) (Wk.of (by simp only [go_sem, ↓List.forall_mem_cons, List.not_mem_nil, false_implies, implies_true, and_true, true_and, and_self, Nat.reduceEqDiff, reduceIte, ↓reduceIte, ri_eq, Int.natCast_add, Int.cast_ofNat_Int, rby, rc]; try simp) rfl) ?_
    intro i hi
    refine SW_of_vc Try.mixed _ _ _ (by kernel_rfl) ?_
    by_cases hlt : i + 1 < K.length
    · obtain ⟨⟨m, rfl, ha⟩, p, q, gp, gq, hpq⟩ := hlink i hlt
      have ei : (ints K)[i]? = some (.val (.int .i64 (p : Int))) := by rw [ints_get (by omega), gp]
      have ei1 : (ints K)[i + 1]? = some (.val (.int .i64 (q : Int))) := by rw [ints_get (by omega), gq]
      simp (disch := omega) only [Try.ntmps13, Try.results13, go_sem, Nat.reduceLT, Nat.reduceLeDiff, Nat.reduceEqDiff, Nat.reduceAdd, Nat.reduceSub, Nat.reduceMul, reduceIte, ↓reduceIte, reduceCtorEq, Int.reduceToNat, Int.reduceLE, Int.reduceLT, Int.reduceNeg, Int.reduceSub, Int.reduceAdd, Int.reduceMul, rby, rr_eq, rc, bne_self_eq_false, beq_self_eq_true]
      refine LoopW.loop (fun j : Nat => ⟨ofL [(0, rby B), (4, rc C), (5, ri K), (7, .val (.int .i64 i)), (8, .val (.bool (mustB (C.take j) p q))), (9, .val (.int .i64 j))], hp [] 0⟩) (fun j => j ≤ C.length) (fun j => C.length - j) 0 (by omega) (Wk.of (by simp only [go_sem, ↓List.forall_mem_cons, List.not_mem_nil, false_implies, implies_true, and_true, true_and, and_self, Nat.reduceEqDiff, reduceIte, ↓reduceIte, ri_eq, Int.natCast_add, Int.cast_ofNat_Int, rby, rc, List.take_zero, mustB_nil]; try simp) rfl) ?_
      intro j hj
      refine SW_of_vc Try.mixed _ _ _ (by kernel_rfl) ?_
      by_cases hltj : j < C.length
      · obtain ⟨x, y, s, hc, hxy, hyn⟩ := con_nat ha hltj
        obtain ⟨q1, q2, q3, _⟩ := cons_of hltj hc
        have lC := cons_length C
        have hs := mustB_succ hltj p q
        rw [hc, linkB_at] at hs
        have ein : ((i : Int) + 1) = ((i + 1 : Nat) : Int) := by omega
        rcases Bool.eq_false_or_eq_true (mustB (C.take j) p q) with hl | hl
        · rw [hl, Bool.true_or] at hs
          rw [hl]
          simp (disch := omega) only [Try.ntmps13, Try.results13, go_sem, Nat.reduceLT, Nat.reduceLeDiff, Nat.reduceEqDiff, Nat.reduceAdd, Nat.reduceSub, Nat.reduceMul, reduceIte, ↓reduceIte, reduceCtorEq, Int.reduceToNat, Int.reduceLE, Int.reduceLT, Int.reduceNeg, Int.reduceSub, Int.reduceAdd, Int.reduceMul, rby, rr_eq, rc, bne_self_eq_false, beq_self_eq_true, q1, q2, q3, ei, ei1, lC, hiK]
          exact ⟨j + 1, by omega, by omega, Wk.of (by simp only [go_sem, ↓List.forall_mem_cons, List.not_mem_nil, false_implies, implies_true, and_true, true_and, and_self, Nat.reduceEqDiff, reduceIte, ↓reduceIte, ri_eq, Int.natCast_add, Int.cast_ofNat_Int, rby, rc, hs]; try simp) rfl⟩
        · rw [hl, Bool.false_or] at hs
          rw [hl]
          cases s with
          | false =>
            rw [Bool.false_and] at hs
            simp (disch := omega) only [Try.ntmps13, Try.results13, go_sem, Nat.reduceLT, Nat.reduceLeDiff, Nat.reduceEqDiff, Nat.reduceAdd, Nat.reduceSub, Nat.reduceMul, reduceIte, ↓reduceIte, reduceCtorEq, Int.reduceToNat, Int.reduceLE, Int.reduceLT, Int.reduceNeg, Int.reduceSub, Int.reduceAdd, Int.reduceMul, rby, rr_eq, rc, bne_self_eq_false, beq_self_eq_true, q1, q2, q3, ei, ei1, lC, hiK]
            exact ⟨j + 1, by omega, by omega, Wk.of (by simp only [go_sem, ↓List.forall_mem_cons, List.not_mem_nil, false_implies, implies_true, and_true, true_and, and_self, Nat.reduceEqDiff, reduceIte, ↓reduceIte, ri_eq, Int.natCast_add, Int.cast_ofNat_Int, rby, rc, hs]; try simp) rfl⟩
          | true =>
            rw [Bool.true_and] at hs
            by_cases c1 : x = p
            · by_cases c2 : y = q
              · have hs : mustB (C.take (j + 1)) p q = true := by rw [hs]; simp [c1, c2]
                simp (disch := omega) only [Try.ntmps13, Try.results13, go_sem, Nat.reduceLT, Nat.reduceLeDiff, Nat.reduceEqDiff, Nat.reduceAdd, Nat.reduceSub, Nat.reduceMul, reduceIte, ↓reduceIte, reduceCtorEq, Int.reduceToNat, Int.reduceLE, Int.reduceLT, Int.reduceNeg, Int.reduceSub, Int.reduceAdd, Int.reduceMul, rby, rr_eq, rc, bne_self_eq_false, beq_self_eq_true, q1, q2, q3, ei, ei1, lC, hiK, ein]
                exact ⟨j + 1, by omega, by omega, Wk.of (by simp only [go_sem, ↓List.forall_mem_cons, List.not_mem_nil, false_implies, implies_true, and_true, true_and, and_self, Nat.reduceEqDiff, reduceIte, ↓reduceIte, ri_eq, Int.natCast_add, Int.cast_ofNat_Int, rby, rc, hs]; try simp) rfl⟩
              · have c3 : ¬ y = p := by omega
                have hs : mustB (C.take (j + 1)) p q = false := by rw [hs]; simp [c2, c3]
                simp (disch := omega) only [Try.ntmps13, Try.results13, go_sem, Nat.reduceLT, Nat.reduceLeDiff, Nat.reduceEqDiff, Nat.reduceAdd, Nat.reduceSub, Nat.reduceMul, reduceIte, ↓reduceIte, reduceCtorEq, Int.reduceToNat, Int.reduceLE, Int.reduceLT, Int.reduceNeg, Int.reduceSub, Int.reduceAdd, Int.reduceMul, rby, rr_eq, rc, bne_self_eq_false, beq_self_eq_true, q1, q2, q3, ei, ei1, lC, hiK, ein]
                exact ⟨j + 1, by omega, by omega, Wk.of (by simp only [go_sem, ↓List.forall_mem_cons, List.not_mem_nil, false_implies, implies_true, and_true, true_and, and_self, Nat.reduceEqDiff, reduceIte, ↓reduceIte, ri_eq, Int.natCast_add, Int.cast_ofNat_Int, rby, rc, hs]; try simp) rfl⟩
            · by_cases c2 : y = p
              · by_cases c3 : x = q
                · have hs : mustB (C.take (j + 1)) p q = true := by rw [hs]; simp [c2, c3]
                  simp (disch := omega) only [Try.ntmps13, Try.results13, go_sem, Nat.reduceLT, Nat.reduceLeDiff, Nat.reduceEqDiff, Nat.reduceAdd, Nat.reduceSub, Nat.reduceMul, reduceIte, ↓reduceIte, reduceCtorEq, Int.reduceToNat, Int.reduceLE, Int.reduceLT, Int.reduceNeg, Int.reduceSub, Int.reduceAdd, Int.reduceMul, rby, rr_eq, rc, bne_self_eq_false, beq_self_eq_true, q1, q2, q3, ei, ei1, lC, hiK, ein]
                  exact ⟨j + 1, by omega, by omega, Wk.of (by simp only [go_sem, ↓List.forall_mem_cons, List.not_mem_nil, false_implies, implies_true, and_true, true_and, and_self, Nat.reduceEqDiff, reduceIte, ↓reduceIte, ri_eq, Int.natCast_add, Int.cast_ofNat_Int, rby, rc, hs]; try simp) rfl⟩
                · have hs : mustB (C.take (j + 1)) p q = false := by rw [hs]; simp [c1, c3]
                  simp (disch := omega) only [Try.ntmps13, Try.results13, go_sem, Nat.reduceLT, Nat.reduceLeDiff, Nat.reduceEqDiff, Nat.reduceAdd, Nat.reduceSub, Nat.reduceMul, reduceIte, ↓reduceIte, reduceCtorEq, Int.reduceToNat, Int.reduceLE, Int.reduceLT, Int.reduceNeg, Int.reduceSub, Int.reduceAdd, Int.reduceMul, rby, rr_eq, rc, bne_self_eq_false, beq_self_eq_true, q1, q2, q3, ei, ei1, lC, hiK, ein]
                  exact ⟨j + 1, by omega, by omega, Wk.of (by simp only [go_sem, ↓List.forall_mem_cons, List.not_mem_nil, false_implies, implies_true, and_true, true_and, and_self, Nat.reduceEqDiff, reduceIte, ↓reduceIte, ri_eq, Int.natCast_add, Int.cast_ofNat_Int, rby, rc, hs]; try simp) rfl⟩
              · have hs : mustB (C.take (j + 1)) p q = false := by rw [hs]; simp [c1, c2]
                simp (disch := omega) only [Try.ntmps13, Try.results13, go_sem, Nat.reduceLT, Nat.reduceLeDiff, Nat.reduceEqDiff, Nat.reduceAdd, Nat.reduceSub, Nat.reduceMul, reduceIte, ↓reduceIte, reduceCtorEq, Int.reduceToNat, Int.reduceLE, Int.reduceLT, Int.reduceNeg, Int.reduceSub, Int.reduceAdd, Int.reduceMul, rby, rr_eq, rc, bne_self_eq_false, beq_self_eq_true, q1, q2, q3, ei, ei1, lC, hiK, ein]
                exact ⟨j + 1, by omega, by omega, Wk.of (by simp only [go_sem, ↓List.forall_mem_cons, List.not_mem_nil, false_implies, implies_true, and_true, true_and, and_self, Nat.reduceEqDiff, reduceIte, ↓reduceIte, ri_eq, Int.natCast_add, Int.cast_ofNat_Int, rby, rc, hs]; try simp) rfl⟩
      · obtain rfl : j = C.length := by omega
        rw [List.take_length, hpq]
        simp (disch := omega) only [Try.ntmps13, Try.results13, go_sem, Nat.reduceLT, Nat.reduceLeDiff, Nat.reduceEqDiff, Nat.reduceAdd, Nat.reduceSub, Nat.reduceMul, reduceIte, ↓reduceIte, reduceCtorEq, Int.reduceToNat, Int.reduceLE, Int.reduceLT, Int.reduceNeg, Int.reduceSub, Int.reduceAdd, Int.reduceMul, rby, rr_eq, rc, bne_self_eq_false, beq_self_eq_true]
        exact ⟨i + 1, by omega, by omega, Wk.of (by simp only [go_sem, ↓List.forall_mem_cons, List.not_mem_nil, false_implies, implies_true, and_true, true_and, and_self, Nat.reduceEqDiff, reduceIte, ↓reduceIte, ri_eq, Int.natCast_add, Int.cast_ofNat_Int, rby, rc]; try simp) rfl⟩
    · simp (disch := omega) only [Try.ntmps13, Try.results13, go_sem, Nat.reduceLT, Nat.reduceLeDiff, Nat.reduceEqDiff, Nat.reduceAdd, Nat.reduceSub, Nat.reduceMul, reduceIte, ↓reduceIte, reduceCtorEq, Int.reduceToNat, Int.reduceLE, Int.reduceLT, Int.reduceNeg, Int.reduceSub, Int.reduceAdd, Int.reduceMul, rby, rr_eq, rc, bne_self_eq_false, beq_self_eq_true]
      exact Wk.of (by simp only [go_sem, ↓List.forall_mem_cons, List.not_mem_nil, false_implies, implies_true, and_true, true_and, and_self, Nat.reduceEqDiff, reduceIte, ↓reduceIte, ri_eq, Int.natCast_add, Int.cast_ofNat_Int, rby]; try simp) rfl
  clear w1 w2 w3 w4 w5 w6 w7 w8 ws wt hlink hfacts hneg hcon hiK hKl hml hC hC5 n1 n2
  clear ic U k K C n
  refine SW.seqI (fun y : List (List Int) × List Con × List Int => ⟨ofL [(10, rr y.1), (11, rc y.2.1), (12, ri y.2.2)], hp [] 0⟩) (fun y => y.1.length ≤ 7 ∧ (∀ i, i < y.1.length → (mrow y.1 i).length ≤ 6) ∧ y.2.1.length ≤ 5 ∧ y.2.2.length ≤ 9) ?_ ?_
  · refine SW_of_vc Try.mixed _ _ _ (by kernel_rfl) ?_
    simp (disch := omega) only [Try.ntmps13, Try.results13, go_sem, Nat.reduceLT, Nat.reduceLeDiff, Nat.reduceEqDiff, Nat.reduceAdd, Nat.reduceSub, Nat.reduceMul, reduceIte, ↓reduceIte, reduceCtorEq, Int.reduceToNat, Int.reduceLE, Int.reduceLT, Int.reduceNeg, Int.reduceSub, Int.reduceAdd, Int.reduceMul, rby, rr_eq, rc, bne_self_eq_false, beq_self_eq_true]
    refine (Try.drawOpt_e B hB).callE 0 (viewL_cons_of (view_row) viewL_nil_of) ?_
    rintro T ⟨M, C, L, rfl, hM7, hR6, hC5, hL9⟩
    simp (disch := omega) only [Try.ntmps13, Try.results13, go_sem, Nat.reduceLT, Nat.reduceLeDiff, Nat.reduceEqDiff, Nat.reduceAdd, Nat.reduceSub, Nat.reduceMul, reduceIte, ↓reduceIte, reduceCtorEq, Int.reduceToNat, Int.reduceLE, Int.reduceLT, Int.reduceNeg, Int.reduceSub, Int.reduceAdd, Int.reduceMul, rby, rr_eq, rc, bne_self_eq_false, beq_self_eq_true]
    exact ⟨(M, C, L), ⟨hM7, hR6, hC5, hL9⟩, Wk.of (by simp only [go_sem, ↓List.forall_mem_cons, List.not_mem_nil, false_implies, implies_true, and_true, true_and, and_self, Nat.reduceEqDiff, reduceIte, ↓reduceIte, ri_eq, Int.natCast_add, Int.cast_ofNat_Int, rr_eq, rc]; try simp) rfl⟩
  rintro ⟨M, C, p⟩ ⟨hM7, hR6, hC5, hL9⟩
  simp only at hM7 hR6 hC5 hL9
  have hC : C.length ≤ 1048576 := by omega
  have wk := Try.specKeepsConstraints_ok p C (by omega) hC
  have wa := Try.specAreConstraints_ok M.length C hC (by omega) (by omega)
  rcases Bool.eq_false_or_eq_true (isPart p && C.all (kp p)) with hk | hk
  case inr =>
    rw [hk] at wk
    refine SW_of_vc Try.mixed _ _ _ (by kernel_rfl) ?_
    simp (disch := omega) only [Try.ntmps13, Try.results13, go_sem, Nat.reduceLT, Nat.reduceLeDiff, Nat.reduceEqDiff, Nat.reduceAdd, Nat.reduceSub, Nat.reduceMul, reduceIte, ↓reduceIte, reduceCtorEq, Int.reduceToNat, Int.reduceLE, Int.reduceLT, Int.reduceNeg, Int.reduceSub, Int.reduceAdd, Int.reduceMul, rby, rr_eq, rc, bne_self_eq_false, beq_self_eq_true]
    refine wk.callV 0 (viewL_cons_of (view_row) (viewL_cons_of (view_row) viewL_nil_of)) ?_
    simp (disch := omega) only [Try.ntmps13, Try.results13, go_sem, Nat.reduceLT, Nat.reduceLeDiff, Nat.reduceEqDiff, Nat.reduceAdd, Nat.reduceSub, Nat.reduceMul, reduceIte, ↓reduceIte, reduceCtorEq, Int.reduceToNat, Int.reduceLE, Int.reduceLT, Int.reduceNeg, Int.reduceSub, Int.reduceAdd, Int.reduceMul, rby, rr_eq, rc, bne_self_eq_false, beq_self_eq_true]
    exact Fin.val rfl
  rw [hk] at wk
  by_cases hpl : p.length = M.length
  case neg =>
    refine SW_of_vc Try.mixed _ _ _ (by kernel_rfl) ?_
    simp (disch := omega) only [Try.ntmps13, Try.results13, go_sem, Nat.reduceLT, Nat.reduceLeDiff, Nat.reduceEqDiff, Nat.reduceAdd, Nat.reduceSub, Nat.reduceMul, reduceIte, ↓reduceIte, reduceCtorEq, Int.reduceToNat, Int.reduceLE, Int.reduceLT, Int.reduceNeg, Int.reduceSub, Int.reduceAdd, Int.reduceMul, rby, rr_eq, rc, bne_self_eq_false, beq_self_eq_true]
    refine wk.callV 0 (viewL_cons_of (view_row) (viewL_cons_of (view_row) viewL_nil_of)) ?_
    simp (disch := omega) only [Try.ntmps13, Try.results13, go_sem, Nat.reduceLT, Nat.reduceLeDiff, Nat.reduceEqDiff, Nat.reduceAdd, Nat.reduceSub, Nat.reduceMul, reduceIte, ↓reduceIte, reduceCtorEq, Int.reduceToNat, Int.reduceLE, Int.reduceLT, Int.reduceNeg, Int.reduceSub, Int.reduceAdd, Int.reduceMul, rby, rr_eq, rc, bne_self_eq_false, beq_self_eq_true]
    exact Fin.val rfl
  rcases Bool.eq_false_or_eq_true (areCons M.length C) with ha | ha
  case inr =>
    rw [ha] at wa
    refine SW_of_vc Try.mixed _ _ _ (by kernel_rfl) ?_
    simp (disch := omega) only [Try.ntmps13, Try.results13, go_sem, Nat.reduceLT, Nat.reduceLeDiff, Nat.reduceEqDiff, Nat.reduceAdd, Nat.reduceSub, Nat.reduceMul, reduceIte, ↓reduceIte, reduceCtorEq, Int.reduceToNat, Int.reduceLE, Int.reduceLT, Int.reduceNeg, Int.reduceSub, Int.reduceAdd, Int.reduceMul, rby, rr_eq, rc, bne_self_eq_false, beq_self_eq_true]
    refine wk.callV 0 (viewL_cons_of (view_row) (viewL_cons_of (view_row) viewL_nil_of)) ?_
    simp (disch := omega) only [Try.ntmps13, Try.results13, go_sem, Nat.reduceLT, Nat.reduceLeDiff, Nat.reduceEqDiff, Nat.reduceAdd, Nat.reduceSub, Nat.reduceMul, reduceIte, ↓reduceIte, reduceCtorEq, Int.reduceToNat, Int.reduceLE, Int.reduceLT, Int.reduceNeg, Int.reduceSub, Int.reduceAdd, Int.reduceMul, rby, rr_eq, rc, bne_self_eq_false, beq_self_eq_true, hpl]
    refine wa.callV 0 (viewL_cons_of (view_int) (viewL_cons_of (view_row) viewL_nil_of)) ?_
    simp (disch := omega) only [Try.ntmps13, Try.results13, go_sem, Nat.reduceLT, Nat.reduceLeDiff, Nat.reduceEqDiff, Nat.reduceAdd, Nat.reduceSub, Nat.reduceMul, reduceIte, ↓reduceIte, reduceCtorEq, Int.reduceToNat, Int.reduceLE, Int.reduceLT, Int.reduceNeg, Int.reduceSub, Int.reduceAdd, Int.reduceMul, rby, rr_eq, rc, bne_self_eq_false, beq_self_eq_true]
    exact Fin.val rfl
  rw [ha] at wa
  refine SW.seqW ⟨ofL [(11, rc C), (12, ri p)], hp [] 0⟩ ?_ ?_
  · refine SW_of_vc Try.mixed _ _ _ (by kernel_rfl) ?_
    simp (disch := omega) only [Try.ntmps13, Try.results13, go_sem, Nat.reduceLT, Nat.reduceLeDiff, Nat.reduceEqDiff, Nat.reduceAdd, Nat.reduceSub, Nat.reduceMul, reduceIte, ↓reduceIte, reduceCtorEq, Int.reduceToNat, Int.reduceLE, Int.reduceLT, Int.reduceNeg, Int.reduceSub, Int.reduceAdd, Int.reduceMul, rby, rr_eq, rc, bne_self_eq_false, beq_self_eq_true]
    refine wk.callV 0 (viewL_cons_of (view_row) (viewL_cons_of (view_row) viewL_nil_of)) ?_
    simp (disch := omega) only [Try.ntmps13, Try.results13, go_sem, Nat.reduceLT, Nat.reduceLeDiff, Nat.reduceEqDiff, Nat.reduceAdd, Nat.reduceSub, Nat.reduceMul, reduceIte, ↓reduceIte, reduceCtorEq, Int.reduceToNat, Int.reduceLE, Int.reduceLT, Int.reduceNeg, Int.reduceSub, Int.reduceAdd, Int.reduceMul, rby, rr_eq, rc, bne_self_eq_false, beq_self_eq_true, hpl]
    refine wa.callV 0 (viewL_cons_of (view_int) (viewL_cons_of (view_row) viewL_nil_of)) ?_
    simp (disch := omega) only [Try.ntmps13, Try.results13, go_sem, Nat.reduceLT, Nat.reduceLeDiff, Nat.reduceEqDiff, Nat.reduceAdd, Nat.reduceSub, Nat.reduceMul, reduceIte, ↓reduceIte, reduceCtorEq, Int.reduceToNat, Int.reduceLE, Int.reduceLT, Int.reduceNeg, Int.reduceSub, Int.reduceAdd, Int.reduceMul, rby, rr_eq, rc, bne_self_eq_false, beq_self_eq_true]
    exact Wk.of (by simp only [go_sem, ↓List.forall_mem_cons, List.not_mem_nil, false_implies, implies_true, and_true, true_and, and_self, Nat.reduceEqDiff, reduceIte, ↓reduceIte, ri_eq, Int.natCast_add, Int.cast_ofNat_Int, rc, hpl]; try simp) rfl
  rw [← hpl] at ha
  rw [Bool.and_eq_true] at hk
  have hrel := fun a b (h1 : a < p.length) (h2 : b < p.length) => rel_facts ha hk.2 h1 h2
  refine SW_of_vc Try.mixed _ _ _ (by kernel_rfl) ?_
  simp (disch := omega) only [Try.ntmps13, Try.results13, go_sem, Nat.reduceLT, Nat.reduceLeDiff, Nat.reduceEqDiff, Nat.reduceAdd, Nat.reduceSub, Nat.reduceMul, reduceIte, ↓reduceIte, reduceCtorEq, Int.reduceToNat, Int.reduceLE, Int.reduceLT, Int.reduceNeg, Int.reduceSub, Int.reduceAdd, Int.reduceMul, rby, rr_eq, rc, bne_self_eq_false, beq_self_eq_true]
  refine LoopW.loop (fun a : Nat => ⟨ofL [(11, rc C), (12, ri p), (13, .val (.int .i64 a))], hp [] 0⟩) (fun a => a ≤ p.length) (fun a => p.length - a) 0 (by omega) (Wk.of (by simp only [go_sem, ↓List.forall_mem_cons, List.not_mem_nil, false_implies, implies_true, and_true, true_and, and_self, Nat.reduceEqDiff, reduceIte, ↓reduceIte, ri_eq, Int.natCast_add, Int.cast_ofNat_Int, rc]; try simp) rfl) ?_
  intro a hap
  refine SW_of_vc Try.mixed _ _ _ (by kernel_rfl) ?_
  by_cases hlt : a < p.length
  · simp (disch := omega) only [Try.ntmps13, Try.results13, go_sem, Nat.reduceLT, Nat.reduceLeDiff, Nat.reduceEqDiff, Nat.reduceAdd, Nat.reduceSub, Nat.reduceMul, reduceIte, ↓reduceIte, reduceCtorEq, Int.reduceToNat, Int.reduceLE, Int.reduceLT, Int.reduceNeg, Int.reduceSub, Int.reduceAdd, Int.reduceMul, rby, rr_eq, rc, bne_self_eq_false, beq_self_eq_true]
    refine LoopW.loop (fun b : Nat => ⟨ofL [(11, rc C), (12, ri p), (13, .val (.int .i64 a)), (14, .val (.int .i64 b))], hp [] 0⟩) (fun b => b ≤ p.length) (fun b => p.length - b) 0 (by omega) (Wk.of (by simp only [go_sem, ↓List.forall_mem_cons, List.not_mem_nil, false_implies, implies_true, and_true, true_and, and_self, Nat.reduceEqDiff, reduceIte, ↓reduceIte, ri_eq, Int.natCast_add, Int.cast_ofNat_Int, rc]; try simp) rfl) ?_
    intro b hbp
    by_cases hltb : b < p.length
    · have wi := Try.implRel_ok p.length C a b hC
      have wsp := Try.specRel_ok p.length C a b hC (by omega) (by omega)
      obtain ⟨f1, f2⟩ := hrel a b hlt hltb
      have ga : (ints p)[a]? = some (.val (.int .i64 (p.getD a 0))) := ints_get hlt
      have gb : (ints p)[b]? = some (.val (.int .i64 (p.getD b 0))) := ints_get hltb
      have hip := ints_length p
      generalize relOf p.length C a b = r at *
      generalize p.getD a 0 = u at *
      generalize p.getD b 0 = v at *
      rcases (by omega : r = 1 ∨ r = -1 ∨ (¬ r = 1 ∧ ¬ r = -1)) with hr | hr | ⟨hr, hr2⟩
      · have huv := f1 hr
        subst hr
        refine SW_of_vc Try.mixed _ _ _ (by kernel_rfl) ?_
        simp (disch := omega) only [Try.ntmps13, Try.results13, go_sem, Nat.reduceLT, Nat.reduceLeDiff, Nat.reduceEqDiff, Nat.reduceAdd, Nat.reduceSub, Nat.reduceMul, reduceIte, ↓reduceIte, reduceCtorEq, Int.reduceToNat, Int.reduceLE, Int.reduceLT, Int.reduceNeg, Int.reduceSub, Int.reduceAdd, Int.reduceMul, rby, rr_eq, rc, bne_self_eq_false, beq_self_eq_true]
        refine wi.callV 0 (viewL_cons_of (view_int) (viewL_cons_of (view_row) (viewL_cons_of (view_int) (viewL_cons_of (view_int) viewL_nil_of)))) ?_
        simp (disch := omega) only [Try.ntmps13, Try.results13, go_sem, Nat.reduceLT, Nat.reduceLeDiff, Nat.reduceEqDiff, Nat.reduceAdd, Nat.reduceSub, Nat.reduceMul, reduceIte, ↓reduceIte, reduceCtorEq, Int.reduceToNat, Int.reduceLE, Int.reduceLT, Int.reduceNeg, Int.reduceSub, Int.reduceAdd, Int.reduceMul, rby, rr_eq, rc, bne_self_eq_false, beq_self_eq_true]
        refine wsp.callDV 0 (viewL_cons_of (view_int) (viewL_cons_of (view_row) (viewL_cons_of (view_int) (viewL_cons_of (view_int) viewL_nil_of)))) ?_
        simp (disch := omega) only [Try.ntmps13, Try.results13, go_sem, Nat.reduceLT, Nat.reduceLeDiff, Nat.reduceEqDiff, Nat.reduceAdd, Nat.reduceSub, Nat.reduceMul, reduceIte, ↓reduceIte, reduceCtorEq, Int.reduceToNat, Int.reduceLE, Int.reduceLT, Int.reduceNeg, Int.reduceSub, Int.reduceAdd, Int.reduceMul, rby, rr_eq, rc, bne_self_eq_false, beq_self_eq_true, ga, gb, hip, huv]
        exact ⟨b + 1, by omega, by omega, Wk.of (by simp only [go_sem, ↓List.forall_mem_cons, List.not_mem_nil, false_implies, implies_true, and_true, true_and, and_self, Nat.reduceEqDiff, reduceIte, ↓reduceIte, ri_eq, Int.natCast_add, Int.cast_ofNat_Int, rc]; try simp) rfl⟩
      · have huv := f2 hr
        subst hr
        refine SW_of_vc Try.mixed _ _ _ (by kernel_rfl) ?_
        simp (disch := omega) only [Try.ntmps13, Try.results13, go_sem, Nat.reduceLT, Nat.reduceLeDiff, Nat.reduceEqDiff, Nat.reduceAdd, Nat.reduceSub, Nat.reduceMul, reduceIte, ↓reduceIte, reduceCtorEq, Int.reduceToNat, Int.reduceLE, Int.reduceLT, Int.reduceNeg, Int.reduceSub, Int.reduceAdd, Int.reduceMul, rby, rr_eq, rc, bne_self_eq_false, beq_self_eq_true]
        refine wi.callV 0 (viewL_cons_of (view_int) (viewL_cons_of (view_row) (viewL_cons_of (view_int) (viewL_cons_of (view_int) viewL_nil_of)))) ?_
        simp (disch := omega) only [Try.ntmps13, Try.results13, go_sem, Nat.reduceLT, Nat.reduceLeDiff, Nat.reduceEqDiff, Nat.reduceAdd, Nat.reduceSub, Nat.reduceMul, reduceIte, ↓reduceIte, reduceCtorEq, Int.reduceToNat, Int.reduceLE, Int.reduceLT, Int.reduceNeg, Int.reduceSub, Int.reduceAdd, Int.reduceMul, rby, rr_eq, rc, bne_self_eq_false, beq_self_eq_true]
        refine wsp.callDV 0 (viewL_cons_of (view_int) (viewL_cons_of (view_row) (viewL_cons_of (view_int) (viewL_cons_of (view_int) viewL_nil_of)))) ?_
        simp (disch := omega) only [Try.ntmps13, Try.results13, go_sem, Nat.reduceLT, Nat.reduceLeDiff, Nat.reduceEqDiff, Nat.reduceAdd, Nat.reduceSub, Nat.reduceMul, reduceIte, ↓reduceIte, reduceCtorEq, Int.reduceToNat, Int.reduceLE, Int.reduceLT, Int.reduceNeg, Int.reduceSub, Int.reduceAdd, Int.reduceMul, rby, rr_eq, rc, bne_self_eq_false, beq_self_eq_true, ga, gb, hip]
        exact ⟨b + 1, by omega, by omega, Wk.of (by simp only [go_sem, ↓List.forall_mem_cons, List.not_mem_nil, false_implies, implies_true, and_true, true_and, and_self, Nat.reduceEqDiff, reduceIte, ↓reduceIte, ri_eq, Int.natCast_add, Int.cast_ofNat_Int, rc]; try simp) rfl⟩
      · refine SW_of_vc Try.mixed _ _ _ (by kernel_rfl) ?_
        simp (disch := omega) only [Try.ntmps13, Try.results13, go_sem, Nat.reduceLT, Nat.reduceLeDiff, Nat.reduceEqDiff, Nat.reduceAdd, Nat.reduceSub, Nat.reduceMul, reduceIte, ↓reduceIte, reduceCtorEq, Int.reduceToNat, Int.reduceLE, Int.reduceLT, Int.reduceNeg, Int.reduceSub, Int.reduceAdd, Int.reduceMul, rby, rr_eq, rc, bne_self_eq_false, beq_self_eq_true]
        refine wi.callV 0 (viewL_cons_of (view_int) (viewL_cons_of (view_row) (viewL_cons_of (view_int) (viewL_cons_of (view_int) viewL_nil_of)))) ?_
        simp (disch := omega) only [Try.ntmps13, Try.results13, go_sem, Nat.reduceLT, Nat.reduceLeDiff, Nat.reduceEqDiff, Nat.reduceAdd, Nat.reduceSub, Nat.reduceMul, reduceIte, ↓reduceIte, reduceCtorEq, Int.reduceToNat, Int.reduceLE, Int.reduceLT, Int.reduceNeg, Int.reduceSub, Int.reduceAdd, Int.reduceMul, rby, rr_eq, rc, bne_self_eq_false, beq_self_eq_true]
        refine wsp.callDV 0 (viewL_cons_of (view_int) (viewL_cons_of (view_row) (viewL_cons_of (view_int) (viewL_cons_of (view_int) viewL_nil_of)))) ?_
        simp (disch := omega) only [Try.ntmps13, Try.results13, go_sem, Nat.reduceLT, Nat.reduceLeDiff, Nat.reduceEqDiff, Nat.reduceAdd, Nat.reduceSub, Nat.reduceMul, reduceIte, ↓reduceIte, reduceCtorEq, Int.reduceToNat, Int.reduceLE, Int.reduceLT, Int.reduceNeg, Int.reduceSub, Int.reduceAdd, Int.reduceMul, rby, rr_eq, rc, bne_self_eq_false, beq_self_eq_true, ga, gb, hip]
        exact ⟨b + 1, by omega, by omega, Wk.of (by simp only [go_sem, ↓List.forall_mem_cons, List.not_mem_nil, false_implies, implies_true, and_true, true_and, and_self, Nat.reduceEqDiff, reduceIte, ↓reduceIte, ri_eq, Int.natCast_add, Int.cast_ofNat_Int, rc]; try simp) rfl⟩
    · refine SW_of_vc Try.mixed _ _ _ (by kernel_rfl) ?_
      simp (disch := omega) only [Try.ntmps13, Try.results13, go_sem, Nat.reduceLT, Nat.reduceLeDiff, Nat.reduceEqDiff, Nat.reduceAdd, Nat.reduceSub, Nat.reduceMul, reduceIte, ↓reduceIte, reduceCtorEq, Int.reduceToNat, Int.reduceLE, Int.reduceLT, Int.reduceNeg, Int.reduceSub, Int.reduceAdd, Int.reduceMul, rby, rr_eq, rc, bne_self_eq_false, beq_self_eq_true]
      exact ⟨a + 1, by omega, by omega, Wk.of (by simp only [go_sem, ↓List.forall_mem_cons, List.not_mem_nil, false_implies, implies_true, and_true, true_and, and_self, Nat.reduceEqDiff, reduceIte, ↓reduceIte, ri_eq, Int.natCast_add, Int.cast_ofNat_Int, rc]; try simp) rfl⟩
  · simp (disch := omega) only [Try.ntmps13, Try.results13, go_sem, Nat.reduceLT, Nat.reduceLeDiff, Nat.reduceEqDiff, Nat.reduceAdd, Nat.reduceSub, Nat.reduceMul, reduceIte, ↓reduceIte, reduceCtorEq, Int.reduceToNat, Int.reduceLE, Int.reduceLT, Int.reduceNeg, Int.reduceSub, Int.reduceAdd, Int.reduceMul, rby, rr_eq, rc, bne_self_eq_false, beq_self_eq_true]
    exact Fin.val rfl
end Go.Sh

/-
  From the values that came in to the shadow's: bytes.
-/
namespace Go.Sh
set_option linter.unusedSimpArgs false
set_option linter.unusedVariables false
open Go Go.RowKit
open Go.ChangeShapes Go.WideShapes

theorem crel_bys {O : Nat → Prop} {w : World} : ∀ (L : List Int) (x : Addr), (L ≠ [] → ¬ O x.block) → (∀ i, i < L.length → w.cell? (x.add i) = some (.int .u8 (L.getD i 0))) → CRel O w (bys L) x
  | [], x, _, _ => by simp only [bys, List.map_nil, CRel]
  | n :: L, x, hO, h => by
    have h0 := h 0 (by simp)
    rw [Addr.add_zero'] at h0
    have hs : x.spot = none := World.cell?_spot h0
    have e : bys (n :: L) = .val (.int .u8 n) :: bys L := rfl
    rw [e]
    simp only [CRel]
    refine ⟨hs, hO (by simp), ⟨_, h0, by simp [VRel]⟩, crel_bys L ⟨x.block, x.off + 1, none⟩ (fun _ => hO (by simp)) (fun i hi => ?_)⟩
    have := h (i + 1) (by simpa using hi)
    have e2 : (⟨x.block, x.off + 1, none⟩ : Addr).add i = x.add (i + 1) := by
      rw [Addr.add_lit, Addr.add_succ']
      simp [Nat.add_assoc, Nat.add_comm 1 i]
    rw [e2, this]
    simp
theorem isRow_bys {w : World} {a : Option Addr} {len cap : Nat} {zs : List Int} (h : IsRow .u8 w a len cap zs) : VRel (fun _ => False) w noj (rby (zs.take len)) (.slice a len cap) := by
  rcases h with ⟨rfl, rfl, rfl, rfl⟩ | ⟨x, rfl, h1, h2, h3, h4, h5⟩
  · simp only [rby, VRel]
    exact ⟨none, 0, rfl, Nat.le_refl _, by simp, .inl (by simp [bys])⟩
  · have hl : (zs.take len).length = len := by simp; omega
    simp only [rby, VRel]
    refine ⟨some x, cap, by rw [hl], by omega, by simp, .inr ⟨x, rfl, crel_bys _ x (fun _ h => h) (fun i hi => ?_)⟩⟩
    have hi' : i < len := by rw [hl] at hi; exact hi
    rw [h4 i (by omega)]
    congr 2
    simp [List.getD, hi']
theorem cell_bys {Hh : Type} {enc : TypeId × Value → Hh} {P : Program} {w : World} {held : Bool} {t e : TypeId} {fuel : Nat} {v : Value} {x : DataW Hh × List MemPlace} (ht : P.underlying t = some (.slice e)) (he : P.underlying e = some (.int .u8)) (hc : P.cellsOf e = 1)
    (h : DataW.trod enc P w 0 (fun _ => true) held fuel t [v] = some x) : ∃ L : List Int, VRel (fun _ => False) w noj (rby L) v ∧ L.length ≤ maxLen := by
  rcases open_ints ht he hc h with ⟨hcs, _⟩ | ⟨a, l, c, zs, hcs, _, hl, hm, hz, _, hcell, hwz⟩
  · simp at hcs
    subst hcs
    exact ⟨[], isRow_bys (zs := []) (.inl ⟨rfl, rfl, rfl, rfl⟩), by simp⟩
  · simp at hcs
    subst hcs
    exact ⟨zs.take l, isRow_bys (.inr ⟨_, rfl, hl, hm, by simpa using hz, hcell, hwz⟩), by simp; omega⟩
end Go.Sh
