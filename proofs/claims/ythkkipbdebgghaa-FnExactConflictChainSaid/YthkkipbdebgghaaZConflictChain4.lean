/-
  Texts put together: Z2, Z3, P1, M1, AD1, AD2, AF2, AF7, AF8, AF4, AF9, R1, R2, EConflictChain. What each proves stands at its own head, with its conditions.
-/
import Derived.Test.YthkkipbdebgghaaZConflictChain3

/-
  Pivots. Plain; and of the program and the reference.
-/
namespace Go.Sh
set_option linter.unusedSimpArgs false
set_option linter.unusedVariables false
open Go Go.Proofs

theorem ord_t {n : Int} {L : List Int} (h : isOrd n L = true) : (1 ≤ n ∧ n ≤ 8) ∧ (L.length : Int) = n ∧ (∀ k, k < L.length → 0 ≤ L.getD k 0 ∧ L.getD k 0 ≤ n - 1) ∧ ∀ i k, i < k → k < L.length → L.getD i 0 ≠ L.getD k 0 := by
  simp only [isOrd, Bool.and_eq_true] at h
  have hl := of_decide_eq_true h.2.1
  have hs : ∀ k, k ≤ L.length → okO n (L.take k) (L.drop k) = true := by
    intro k
    induction k with
    | zero => intro _; simpa using h.2.2
    | succ k ih =>
      intro hk
      have := ih (by omega)
      rw [okO_step (by omega), Bool.and_eq_true, Bool.and_eq_true] at this
      exact this.2.2
  have hk : ∀ k, k < L.length → inR (L.getD k 0) 0 (n - 1) = true ∧ (L.take k).contains (L.getD k 0) = false := fun k hk => by
    have := hs k (by omega)
    rw [okO_step hk, Bool.and_eq_true, Bool.and_eq_true] at this
    exact ⟨this.1, by simpa using this.2.1⟩
  refine ⟨inR_of h.1, hl, fun k h => inR_of (hk k h).1, fun i k hik hkl e => ?_⟩
  have h2 := (hk k hkl).2
  have : L.getD k 0 ∈ L.take k := by
    rw [← e]
    have hi : i < (L.take k).length := by rw [List.length_take]; omega
    have e2 : L.getD i 0 = (L.take k)[i] := by simp [show i < L.length by omega]
    rw [e2]; exact List.getElem_mem hi
  rw [List.contains_iff_mem.2 this] at h2
  cases h2

def gen (n : Nat) (f : Nat → Int) : List Int := (List.range n).map f
theorem gen_length (n : Nat) (f : Nat → Int) : (gen n f).length = n := by simp [gen]
theorem gen_at {n : Nat} {f : Nat → Int} {x : Nat} (h : x < n) : (gen n f).getD x 0 = f x := by simp [gen, h]
theorem gen_congr {n : Nat} {f g : Nat → Int} (h : ∀ x, x < n → f x = g x) : gen n f = gen n g := List.map_congr_left fun x hx => h x (by simpa using hx)
theorem gen_set {n k : Nat} {f : Nat → Int} {a : Int} (h : k < n) : (gen n f).set k a = gen n fun x => if x = k then a else f x := by
  refine list_ext (by simp [gen]) fun x hx => ?_
  rw [List.length_set, gen_length] at hx
  rw [getD_set (by rw [gen_length]; exact h), gen_at hx, gen_at hx]
theorem gen_self {n : Nat} {L : List Int} (h : L.length = n) : L = gen n fun x => L.getD x 0 := list_ext (by rw [gen_length, h]) fun x hx => by rw [gen_at (by omega)]
/-- The labels after i items of the order: the number of the pivot. -/
def pv (M : List (List Int)) (O : List Int) : Nat → List Int
  | 0 => List.replicate M.length (-1)
  | i + 1 => if 0 ≤ (pv M O i).getD (O.getD i 0).toNat 0 then pv M O i else gen M.length fun x => if (pv M O i).getD x 0 < 0 ∧ (x = (O.getD i 0).toNat ∨ 0 < mat M (O.getD i 0).toNat x) then (i : Int) else (pv M O i).getD x 0
theorem pv_length (M : List (List Int)) (O : List Int) : ∀ i, (pv M O i).length = M.length
  | 0 => by simp [pv]
  | i + 1 => by
    rw [pv]
    split
    · exact pv_length M O i
    · exact gen_length _ _
theorem pv_skip {M : List (List Int)} {O : List Int} {i p : Nat} (hp : O.getD i 0 = p) (h : 0 ≤ (pv M O i).getD p 0) : pv M O (i + 1) = pv M O i := by rw [pv, hp, Int.toNat_natCast, if_pos h]
theorem pv_step {M : List (List Int)} {O : List Int} {i p : Nat} (hp : O.getD i 0 = p) (h : (pv M O i).getD p 0 < 0) : pv M O (i + 1) = gen M.length fun x => if (pv M O i).getD x 0 < 0 ∧ (x = p ∨ 0 < mat M p x) then (i : Int) else (pv M O i).getD x 0 := by rw [pv, hp, Int.toNat_natCast, if_neg (by omega)]
theorem pv_r (M : List (List Int)) (O : List Int) : ∀ i x, x < M.length → -1 ≤ (pv M O i).getD x 0 ∧ (pv M O i).getD x 0 < i
  | 0, x, h => by rw [pv, getD_rep h]; simp
  | i + 1, x, h => by
    have ih := pv_r M O i x h
    rw [pv]
    split
    · omega
    · rw [gen_at h]
      split <;> omega
def fO (O : List Int) (q : Int) : Int := if q < 0 then -1 else O.getD q.toNat 0
/-- .. and the pivot itself. -/
def pw (M : List (List Int)) (O : List Int) (i : Nat) : List Int := gen M.length fun x => fO O ((pv M O i).getD x 0)
theorem pw_zero (M : List (List Int)) (O : List Int) : pw M O 0 = List.replicate M.length (-1) := by
  refine list_ext (by rw [pw, gen_length]; simp) fun x hx => ?_
  rw [pw, gen_length] at hx
  rw [pw, gen_at hx, pv, getD_rep hx]; rfl
theorem pw_at {M : List (List Int)} {O : List Int} {i x : Nat} (h : x < M.length) : (pw M O i).getD x 0 = fO O ((pv M O i).getD x 0) := gen_at h
theorem fO_neg {O : List Int} (h : ∀ k, k < O.length → 0 ≤ O.getD k 0) {q : Int} (hq : q < O.length) : fO O q < 0 ↔ q < 0 := by
  unfold fO
  split
  · simp_all
  · have := h q.toNat (by omega); omega
theorem pw_step {M : List (List Int)} {O : List Int} {i p : Nat} (ho : ∀ k, k < O.length → 0 ≤ O.getD k 0) (hi : i < O.length) (hp : O.getD i 0 = p) (h : (pv M O i).getD p 0 < 0) :
    pw M O (i + 1) = gen M.length fun x => if (pw M O i).getD x 0 < 0 ∧ (x = p ∨ 0 < mat M p x) then (p : Int) else (pw M O i).getD x 0 := by
  rw [pw, pv_step hp h]
  refine gen_congr fun x hx => ?_
  rw [gen_at hx, pw_at hx]
  have hr := pv_r M O i x hx
  have hn := fO_neg ho (q := (pv M O i).getD x 0) (by omega)
  by_cases hc : (pv M O i).getD x 0 < 0 ∧ (x = p ∨ 0 < mat M p x)
  · rw [if_pos hc, if_pos ⟨hn.2 hc.1, hc.2⟩, fO, if_neg (by omega), Int.toNat_natCast, hp]
  · rw [if_neg hc, if_neg (fun g => hc ⟨hn.1 g.1, g.2⟩)]
theorem pw_canon {M : List (List Int)} {O : List Int} (h : isOrd M.length O = true) : canon (pw M O O.length) = canon (pv M O O.length) := by
  obtain ⟨h1, h2, h3, h4⟩ := ord_t h
  have ho : ∀ k, k < O.length → 0 ≤ O.getD k 0 := fun k hk => (h3 k hk).1
  refine canon_congr (by rw [pw, gen_length, pv_length]) fun i k hi hk => ?_
  rw [pw, gen_length] at hi hk
  rw [pw_at hi, pw_at hk]
  have r1 := pv_r M O O.length i hi
  have r2 := pv_r M O O.length k hk
  have n1 := fO_neg ho (q := (pv M O O.length).getD i 0) (by omega)
  have n2 := fO_neg ho (q := (pv M O O.length).getD k 0) (by omega)
  generalize (pv M O O.length).getD i 0 = a at *
  generalize (pv M O O.length).getD k 0 = b at *
  refine ⟨fun e => ?_, fun e => by rw [e]⟩
  by_cases ha : a < 0
  · have := n1.2 ha
    have := n2.1 (by omega)
    omega
  · have hb : ¬ b < 0 := fun g => by have := n2.2 g; have := n1.1 (by omega); omega
    rw [fO, fO, if_neg ha, if_neg hb] at e
    rcases Nat.lt_trichotomy a.toNat b.toNat with g | g | g
    · exact absurd e (h4 _ _ g (by omega))
    · omega
    · exact absurd e.symm (h4 _ _ g (by omega))
open Classical in
noncomputable def piv (M : List (List Int)) (O : List Int) : List Int := if WM M ∧ isOrd M.length O = true then canon (pv M O O.length) else []
theorem piv_t {M : List (List Int)} {O : List Int} (h : WM M ∧ isOrd M.length O = true) : piv M O = canon (pv M O O.length) := by rw [piv, if_pos h]
theorem piv_f {M : List (List Int)} {O : List Int} (h : ¬ (WM M ∧ isOrd M.length O = true)) : piv M O = [] := by rw [piv, if_neg h]
theorem piv_length {M : List (List Int)} {O : List Int} (h : WM M ∧ isOrd M.length O = true) : (piv M O).length = M.length := by rw [piv_t h, canon_length, pv_length]

/-- Inside a step of the program: the first k items looked at. -/
def pwk (M : List (List Int)) (P : List Int) (p k : Nat) : List Int := gen M.length fun x => if P.getD x 0 < 0 ∧ (x = p ∨ (x < k ∧ 0 < mat M p x)) then (p : Int) else P.getD x 0
theorem pwk_zero {M : List (List Int)} {P : List Int} {p : Nat} (hl : P.length = M.length) (hp : p < M.length) (h : P.getD p 0 < 0) : P.set p p = pwk M P p 0 := by
  refine list_ext (by rw [List.length_set, pwk, gen_length, hl]) fun x hx => ?_
  rw [List.length_set] at hx
  rw [getD_set (by omega), pwk, gen_at (by omega)]
  by_cases e : x = p
  · rw [if_pos e, if_pos ⟨by rw [e]; exact h, .inl e⟩]
  · rw [if_neg e, if_neg (by rintro ⟨_, g | g⟩ <;> omega)]
theorem pwk_at {M : List (List Int)} {P : List Int} {p k x : Nat} (h : x < M.length) : (pwk M P p k).getD x 0 = if P.getD x 0 < 0 ∧ (x = p ∨ (x < k ∧ 0 < mat M p x)) then (p : Int) else P.getD x 0 := gen_at h
theorem pwk_put {M : List (List Int)} {P : List Int} {p k : Nat} (hk : k < M.length) (hw : 0 < mat M p k) (h : (pwk M P p k).getD k 0 < 0) : (pwk M P p k).set k p = pwk M P p (k + 1) := by
  rw [pwk, gen_set hk, pwk]
  refine gen_congr fun x hx => ?_
  have hkk := pwk_at (P := P) (p := p) (k := k) hk
  rw [hkk] at h
  by_cases e : x = k
  · subst e
    have hP : P.getD x 0 < 0 := by
      split at h
      · omega
      · exact h
    rw [if_pos rfl, if_pos ⟨hP, .inr ⟨by omega, hw⟩⟩]
  · rw [if_neg e]
    by_cases hc : P.getD x 0 < 0 ∧ (x = p ∨ (x < k ∧ 0 < mat M p x))
    · rw [if_pos hc, if_pos ⟨hc.1, hc.2.imp id fun g => ⟨by omega, g.2⟩⟩]
    · rw [if_neg hc, if_neg (fun g => hc ⟨g.1, g.2.imp id fun q => ⟨by omega, q.2⟩⟩)]
theorem pwk_skip {M : List (List Int)} {P : List Int} {p k : Nat} (h : ¬ (0 < mat M p k ∧ (pwk M P p k).getD k 0 < 0)) (hk : k < M.length) : pwk M P p k = pwk M P p (k + 1) := by
  refine gen_congr fun x hx => ?_
  by_cases e : x = k
  · subst e
    by_cases hc : P.getD x 0 < 0 ∧ (x = p ∨ (x < x ∧ 0 < mat M p x))
    · rw [if_pos hc, if_pos ⟨hc.1, hc.2.imp id fun g => ⟨by omega, g.2⟩⟩]
    · rw [if_neg hc]
      rw [pwk_at hx, if_neg hc] at h
      rw [if_neg (fun g => ?_)]
      rcases g.2 with g2 | g2
      · exact hc ⟨g.1, .inl g2⟩
      · exact h ⟨g2.2, g.1⟩
  · by_cases hc : P.getD x 0 < 0 ∧ (x = p ∨ (x < k ∧ 0 < mat M p x))
    · rw [if_pos hc, if_pos ⟨hc.1, hc.2.imp id fun g => ⟨by omega, g.2⟩⟩]
    · rw [if_neg hc, if_neg (fun g => hc ⟨g.1, g.2.imp id fun q => ⟨by omega, q.2⟩⟩)]
theorem pwk_all {M : List (List Int)} {P : List Int} {p : Nat} : pwk M P p M.length = gen M.length fun x => if P.getD x 0 < 0 ∧ (x = p ∨ 0 < mat M p x) then (p : Int) else P.getD x 0 := by
  refine gen_congr fun x hx => ?_
  by_cases hc : P.getD x 0 < 0 ∧ (x = p ∨ 0 < mat M p x)
  · rw [if_pos hc, if_pos ⟨hc.1, hc.2.imp id fun g => ⟨hx, g⟩⟩]
  · rw [if_neg hc, if_neg (fun g => hc ⟨g.1, g.2.imp id fun q => q.2⟩)]

end Go.Sh

/-
  Contracts: pivots, of the reference; both as one.
-/
namespace Go.Sh
set_option linter.unusedSimpArgs false
set_option linter.unusedVariables false
open Go Go.Proofs

def pvk (M : List (List Int)) (Q : List Int) (p i k : Nat) : List Int := gen M.length fun x => if x < k ∧ Q.getD x 0 < 0 ∧ (x = p ∨ 0 < mat M p x) then (i : Int) else Q.getD x 0
theorem pvk_zero {M : List (List Int)} {Q : List Int} {p i : Nat} (hl : Q.length = M.length) : pvk M Q p i 0 = Q := by
  rw [pvk, gen_self hl]
  refine gen_congr fun x hx => ?_
  rw [if_neg (by omega), gen_at hx]
theorem pvk_self {M : List (List Int)} {Q : List Int} {p i k : Nat} (h : k < M.length) : (pvk M Q p i k).getD k 0 = Q.getD k 0 := by rw [pvk, gen_at h, if_neg (by omega)]
theorem pvk_put {M : List (List Int)} {Q : List Int} {p i k : Nat} (hk : k < M.length) (h : Q.getD k 0 < 0 ∧ (k = p ∨ 0 < mat M p k)) : (pvk M Q p i k).set k i = pvk M Q p i (k + 1) := by
  rw [pvk, gen_set hk, pvk]
  refine gen_congr fun x hx => ?_
  by_cases e : x = k
  · subst e; rw [if_pos rfl, if_pos ⟨by omega, h⟩]
  · rw [if_neg e]
    by_cases hc : x < k ∧ Q.getD x 0 < 0 ∧ (x = p ∨ 0 < mat M p x)
    · rw [if_pos hc, if_pos ⟨by omega, hc.2⟩]
    · rw [if_neg hc, if_neg (fun g => hc ⟨by omega, g.2⟩)]
theorem pvk_skip {M : List (List Int)} {Q : List Int} {p i k : Nat} (h : ¬ (Q.getD k 0 < 0 ∧ (k = p ∨ 0 < mat M p k))) : pvk M Q p i k = pvk M Q p i (k + 1) := by
  refine gen_congr fun x hx => ?_
  by_cases e : x = k
  · subst e; rw [if_neg (by omega), if_neg (fun g => h g.2)]
  · by_cases hc : x < k ∧ Q.getD x 0 < 0 ∧ (x = p ∨ 0 < mat M p x)
    · rw [if_pos hc, if_pos ⟨by omega, hc.2⟩]
    · rw [if_neg hc, if_neg (fun g => hc ⟨by omega, g.2⟩)]
theorem pvk_all {M : List (List Int)} {Q : List Int} {p i : Nat} : pvk M Q p i M.length = gen M.length fun x => if Q.getD x 0 < 0 ∧ (x = p ∨ 0 < mat M p x) then (i : Int) else Q.getD x 0 := by
  refine gen_congr fun x hx => ?_
  by_cases hc : Q.getD x 0 < 0 ∧ (x = p ∨ 0 < mat M p x)
  · rw [if_pos hc, if_pos ⟨hx, hc⟩]
  · rw [if_neg hc, if_neg (fun g => hc g.2)]

end Go.Sh

/-
  Contracts: what a partition costs. Of the reference and of the program; the law.
-/
namespace Go.Sh
set_option linter.unusedSimpArgs false
set_option linter.unusedVariables false
open Go Go.Proofs

def ct (M : List (List Int)) (L : List Int) (i k : Nat) : Int := if L.getD i 0 = L.getD k 0 then max 0 (-mat M i k) else max 0 (mat M i k)
def cr (M : List (List Int)) (L : List Int) (i : Nat) : Nat → Int
  | 0 => 0
  | k + 1 => cr M L i k + ct M L i k
def cc (M : List (List Int)) (L : List Int) : Nat → Int
  | 0 => 0
  | i + 1 => cc M L i + cr M L i i
theorem ct_b {M : List (List Int)} {L : List Int} (h : WM M) {i k : Nat} (hi : i < M.length) (hk : k < M.length) : 0 ≤ ct M L i k ∧ ct M L i k ≤ 1000 := by
  have := (h.2.2.1 i k hi hk).1
  unfold ct
  split <;> omega
theorem cr_b {M : List (List Int)} {L : List Int} (h : WM M) {i : Nat} (hi : i < M.length) : ∀ k, k ≤ M.length → 0 ≤ cr M L i k ∧ cr M L i k ≤ 1000 * k
  | 0, _ => by simp [cr]
  | k + 1, hk => by
    have h1 := cr_b h hi (L := L) k (by omega)
    have h2 := ct_b (L := L) h hi (k := k) (by omega)
    rw [cr]; omega
theorem cc_b {M : List (List Int)} {L : List Int} (h : WM M) : ∀ i, i ≤ M.length → 0 ≤ cc M L i ∧ cc M L i ≤ 8000 * i
  | 0, _ => by simp [cc]
  | i + 1, hi => by
    have h1 := cc_b h (L := L) i (by omega)
    have h2 := cr_b (L := L) h (i := i) (by omega) i (by omega)
    have := h.1
    rw [cc]; omega
noncomputable def pcost (M : List (List Int)) (L : List Int) : Int := if isWM M = true ∧ isPart L = true ∧ L.length = M.length then cc M L L.length else -1
set_option maxHeartbeats 4000000 in
set_option maxRecDepth 100000 in
theorem Try.implCost_ok (M : List (List Int)) (L : List Int) (hw : WM M) (hl : L.length = M.length) : PCall Try.prog 136 [rr M, ri L] (.val (.int .i64 (cc M L L.length))) := by
  have hM8 := hw.1.2
  have c1 := cc_b (L := L) hw
  refine FCall.pcall (R := fun r _ => r = .val (.int .i64 (cc M L L.length))) ?_ 0 (by rintro r H rfl; exact view_int)
  refine FCall.of_body Try.func136 rfl (by kernel_rfl) (by simp [Try.ntmps136]) ?_
  refine SW_of_vc Try.mixed _ _ _ (by kernel_rfl) ?_
  simp (disch := omega) only [Try.ntmps136, Try.results136, go_sem, Nat.reduceLT, Nat.reduceLeDiff, Nat.reduceEqDiff, Nat.reduceAdd, Nat.reduceSub, Nat.reduceMul, reduceIte, ↓reduceIte, reduceCtorEq, Int.reduceToNat, Int.reduceLE, Int.reduceLT, Int.reduceNeg, Int.reduceSub, Int.reduceAdd, Int.reduceMul, rr_eq]
  refine LoopW.loop (fun i : Nat => ⟨ofL [(0, rr M), (1, ri L), (5, .val (.int .i64 (cc M L i))), (8, ri L), (9, .val (.int .i64 L.length)), (10, .val (.int .i64 i))], hp [] 0⟩) (fun i => i ≤ L.length) (fun i => L.length - i) 0 (by omega) (Wk.of (by simp only [go_sem, ↓List.forall_mem_cons, List.not_mem_nil, false_implies, implies_true, and_true, true_and, and_self, Nat.reduceEqDiff, reduceIte, ↓reduceIte, ri_eq, Int.natCast_add, Int.cast_ofNat_Int, rr_eq, cc]; try simp) rfl) ?_
  intro i hi
  refine SW_of_vc Try.mixed _ _ _ (by kernel_rfl) ?_
  by_cases hlt : i < L.length
  · simp (disch := omega) only [Try.ntmps136, Try.results136, go_sem, Nat.reduceLT, Nat.reduceLeDiff, Nat.reduceEqDiff, Nat.reduceAdd, Nat.reduceSub, Nat.reduceMul, reduceIte, ↓reduceIte, reduceCtorEq, Int.reduceToNat, Int.reduceLE, Int.reduceLT, Int.reduceNeg, Int.reduceSub, Int.reduceAdd, Int.reduceMul, rr_eq]
    refine LoopW.loop (fun k : Nat => ⟨ofL [(0, rr M), (1, ri L), (5, .val (.int .i64 (cc M L i + cr M L i k))), (6, .val (.int .i64 i)), (8, ri L), (9, .val (.int .i64 L.length)), (10, .val (.int .i64 i)), (13, .val (.int .i64 i)), (14, .val (.int .i64 k))], hp [] 0⟩) (fun k => k ≤ i) (fun k => i - k) 0 (by omega) (Wk.of (by simp only [go_sem, ↓List.forall_mem_cons, List.not_mem_nil, false_implies, implies_true, and_true, true_and, and_self, Nat.reduceEqDiff, reduceIte, ↓reduceIte, ri_eq, Int.natCast_add, Int.cast_ofNat_Int, rr_eq, cr, Int.add_zero]; try simp) rfl) ?_
    intro k hk
    refine SW_of_vc Try.mixed _ _ _ (by kernel_rfl) ?_
    by_cases hki : k < i
    · skip
      have hri := hw.2.1 i (by omega)
      have c2 := c1 i (by omega)
      have c3 := cr_b (L := L) hw (i := i) (by omega)
      have c4 := c3 k (by omega)
      have c5 := (hw.2.2.1 i k (by omega) (by omega)).1
      have g1 : (ints (mrow M i))[k]? = some (.val (.int .i64 (mat M i k))) := ints_get' hri (by omega)
      have hct : cr M L i (k + 1) = cr M L i k + ct M L i k := rfl
      unfold ct at hct
      by_cases he : L.getD i 0 = L.getD k 0
      · rw [if_pos he] at hct
        generalize mat M i k = a at *
        by_cases p1 : 0 < a
        · have e : cc M L i + cr M L i (k + 1) = cc M L i + cr M L i k + 0 := by omega
          simp (disch := omega) only [Try.ntmps136, Try.results136, go_sem, Nat.reduceLT, Nat.reduceLeDiff, Nat.reduceEqDiff, Nat.reduceAdd, Nat.reduceSub, Nat.reduceMul, reduceIte, ↓reduceIte, reduceCtorEq, Int.reduceToNat, Int.reduceLE, Int.reduceLT, Int.reduceNeg, Int.reduceSub, Int.reduceAdd, Int.reduceMul, rr_eq, rows_get, hri, g1, he]
          exact ⟨k + 1, by omega, by omega, Wk.of (by simp only [go_sem, ↓List.forall_mem_cons, List.not_mem_nil, false_implies, implies_true, and_true, true_and, and_self, Nat.reduceEqDiff, reduceIte, ↓reduceIte, ri_eq, Int.natCast_add, Int.cast_ofNat_Int, rr_eq, e, Int.add_zero, Int.sub_eq_add_neg]; try simp) rfl⟩
        · by_cases p2 : a < 0
          · have e : cc M L i + cr M L i (k + 1) = cc M L i + cr M L i k + -a := by omega
            simp (disch := omega) only [Try.ntmps136, Try.results136, go_sem, Nat.reduceLT, Nat.reduceLeDiff, Nat.reduceEqDiff, Nat.reduceAdd, Nat.reduceSub, Nat.reduceMul, reduceIte, ↓reduceIte, reduceCtorEq, Int.reduceToNat, Int.reduceLE, Int.reduceLT, Int.reduceNeg, Int.reduceSub, Int.reduceAdd, Int.reduceMul, rr_eq, rows_get, hri, g1, he]
            exact ⟨k + 1, by omega, by omega, Wk.of (by simp only [go_sem, ↓List.forall_mem_cons, List.not_mem_nil, false_implies, implies_true, and_true, true_and, and_self, Nat.reduceEqDiff, reduceIte, ↓reduceIte, ri_eq, Int.natCast_add, Int.cast_ofNat_Int, rr_eq, e, Int.add_zero, Int.sub_eq_add_neg]; try simp) rfl⟩
          · have e : cc M L i + cr M L i (k + 1) = cc M L i + cr M L i k + 0 := by omega
            simp (disch := omega) only [Try.ntmps136, Try.results136, go_sem, Nat.reduceLT, Nat.reduceLeDiff, Nat.reduceEqDiff, Nat.reduceAdd, Nat.reduceSub, Nat.reduceMul, reduceIte, ↓reduceIte, reduceCtorEq, Int.reduceToNat, Int.reduceLE, Int.reduceLT, Int.reduceNeg, Int.reduceSub, Int.reduceAdd, Int.reduceMul, rr_eq, rows_get, hri, g1, he]
            exact ⟨k + 1, by omega, by omega, Wk.of (by simp only [go_sem, ↓List.forall_mem_cons, List.not_mem_nil, false_implies, implies_true, and_true, true_and, and_self, Nat.reduceEqDiff, reduceIte, ↓reduceIte, ri_eq, Int.natCast_add, Int.cast_ofNat_Int, rr_eq, e, Int.add_zero, Int.sub_eq_add_neg]; try simp) rfl⟩
      · rw [if_neg he] at hct
        generalize mat M i k = a at *
        by_cases p1 : 0 < a
        · have e : cc M L i + cr M L i (k + 1) = cc M L i + cr M L i k + a := by omega
          simp (disch := omega) only [Try.ntmps136, Try.results136, go_sem, Nat.reduceLT, Nat.reduceLeDiff, Nat.reduceEqDiff, Nat.reduceAdd, Nat.reduceSub, Nat.reduceMul, reduceIte, ↓reduceIte, reduceCtorEq, Int.reduceToNat, Int.reduceLE, Int.reduceLT, Int.reduceNeg, Int.reduceSub, Int.reduceAdd, Int.reduceMul, rr_eq, rows_get, hri, g1]
          exact ⟨k + 1, by omega, by omega, Wk.of (by simp only [go_sem, ↓List.forall_mem_cons, List.not_mem_nil, false_implies, implies_true, and_true, true_and, and_self, Nat.reduceEqDiff, reduceIte, ↓reduceIte, ri_eq, Int.natCast_add, Int.cast_ofNat_Int, rr_eq, e, Int.add_zero, Int.sub_eq_add_neg]; try simp) rfl⟩
        · by_cases p2 : a < 0
          · have e : cc M L i + cr M L i (k + 1) = cc M L i + cr M L i k + 0 := by omega
            simp (disch := omega) only [Try.ntmps136, Try.results136, go_sem, Nat.reduceLT, Nat.reduceLeDiff, Nat.reduceEqDiff, Nat.reduceAdd, Nat.reduceSub, Nat.reduceMul, reduceIte, ↓reduceIte, reduceCtorEq, Int.reduceToNat, Int.reduceLE, Int.reduceLT, Int.reduceNeg, Int.reduceSub, Int.reduceAdd, Int.reduceMul, rr_eq, rows_get, hri, g1]
            exact ⟨k + 1, by omega, by omega, Wk.of (by simp only [go_sem, ↓List.forall_mem_cons, List.not_mem_nil, false_implies, implies_true, and_true, true_and, and_self, Nat.reduceEqDiff, reduceIte, ↓reduceIte, ri_eq, Int.natCast_add, Int.cast_ofNat_Int, rr_eq, e, Int.add_zero, Int.sub_eq_add_neg]; try simp) rfl⟩
          · have e : cc M L i + cr M L i (k + 1) = cc M L i + cr M L i k + 0 := by omega
            simp (disch := omega) only [Try.ntmps136, Try.results136, go_sem, Nat.reduceLT, Nat.reduceLeDiff, Nat.reduceEqDiff, Nat.reduceAdd, Nat.reduceSub, Nat.reduceMul, reduceIte, ↓reduceIte, reduceCtorEq, Int.reduceToNat, Int.reduceLE, Int.reduceLT, Int.reduceNeg, Int.reduceSub, Int.reduceAdd, Int.reduceMul, rr_eq, rows_get, hri, g1]
            exact ⟨k + 1, by omega, by omega, Wk.of (by simp only [go_sem, ↓List.forall_mem_cons, List.not_mem_nil, false_implies, implies_true, and_true, true_and, and_self, Nat.reduceEqDiff, reduceIte, ↓reduceIte, ri_eq, Int.natCast_add, Int.cast_ofNat_Int, rr_eq, e, Int.add_zero, Int.sub_eq_add_neg]; try simp) rfl⟩
    · obtain rfl : k = i := by omega
      have ec : cc M L (k + 1) = cc M L k + cr M L k k := rfl
      simp (disch := omega) only [Try.ntmps136, Try.results136, go_sem, Nat.reduceLT, Nat.reduceLeDiff, Nat.reduceEqDiff, Nat.reduceAdd, Nat.reduceSub, Nat.reduceMul, reduceIte, ↓reduceIte, reduceCtorEq, Int.reduceToNat, Int.reduceLE, Int.reduceLT, Int.reduceNeg, Int.reduceSub, Int.reduceAdd, Int.reduceMul, rr_eq]
      exact ⟨k + 1, by omega, by omega, Wk.of (by simp only [go_sem, ↓List.forall_mem_cons, List.not_mem_nil, false_implies, implies_true, and_true, true_and, and_self, Nat.reduceEqDiff, reduceIte, ↓reduceIte, ri_eq, Int.natCast_add, Int.cast_ofNat_Int, rr_eq, ec]; try simp) rfl⟩
  · obtain rfl : i = L.length := by omega
    simp (disch := omega) only [Try.ntmps136, Try.results136, go_sem, Nat.reduceLT, Nat.reduceLeDiff, Nat.reduceEqDiff, Nat.reduceAdd, Nat.reduceSub, Nat.reduceMul, reduceIte, ↓reduceIte, reduceCtorEq, Int.reduceToNat, Int.reduceLE, Int.reduceLT, Int.reduceNeg, Int.reduceSub, Int.reduceAdd, Int.reduceMul, rr_eq]
    exact Fin.val rfl

set_option maxHeartbeats 4000000 in
set_option maxRecDepth 100000 in
theorem Try.specCost_ok (M : List (List Int)) (L : List Int) (hw : WM M) (hl : L.length = M.length) : PCall Try.prog 131 [rr M, ri L] (.val (.int .i64 (cc M L L.length))) := by
  have hM8 := hw.1.2
  have c1 := cc_b (L := L) hw
  refine FCall.pcall (R := fun r _ => r = .val (.int .i64 (cc M L L.length))) ?_ 0 (by rintro r H rfl; exact view_int)
  refine FCall.of_body Try.func131 rfl (by kernel_rfl) (by simp [Try.ntmps131]) ?_
  refine SW_of_vc Try.mixed _ _ _ (by kernel_rfl) ?_
  simp (disch := omega) only [Try.ntmps131, Try.results131, go_sem, Nat.reduceLT, Nat.reduceLeDiff, Nat.reduceEqDiff, Nat.reduceAdd, Nat.reduceSub, Nat.reduceMul, reduceIte, ↓reduceIte, reduceCtorEq, Int.reduceToNat, Int.reduceLE, Int.reduceLT, Int.reduceNeg, Int.reduceSub, Int.reduceAdd, Int.reduceMul, rr_eq]
  refine LoopW.loop (fun i : Nat => ⟨ofL [(0, rr M), (1, ri L), (5, .val (.int .i64 (cc M L i))), (6, .val (.int .i64 i))], hp [] 0⟩) (fun i => i ≤ L.length) (fun i => L.length - i) 0 (by omega) (Wk.of (by simp only [go_sem, ↓List.forall_mem_cons, List.not_mem_nil, false_implies, implies_true, and_true, true_and, and_self, Nat.reduceEqDiff, reduceIte, ↓reduceIte, ri_eq, Int.natCast_add, Int.cast_ofNat_Int, rr_eq, cc]; try simp) rfl) ?_
  intro i hi
  refine SW_of_vc Try.mixed _ _ _ (by kernel_rfl) ?_
  by_cases hlt : i < L.length
  · simp (disch := omega) only [Try.ntmps131, Try.results131, go_sem, Nat.reduceLT, Nat.reduceLeDiff, Nat.reduceEqDiff, Nat.reduceAdd, Nat.reduceSub, Nat.reduceMul, reduceIte, ↓reduceIte, reduceCtorEq, Int.reduceToNat, Int.reduceLE, Int.reduceLT, Int.reduceNeg, Int.reduceSub, Int.reduceAdd, Int.reduceMul, rr_eq]
    refine LoopW.loop (fun k : Nat => ⟨ofL [(0, rr M), (1, ri L), (5, .val (.int .i64 (cc M L i + cr M L i k))), (6, .val (.int .i64 i)), (7, .val (.int .i64 k))], hp [] 0⟩) (fun k => k ≤ i) (fun k => i - k) 0 (by omega) (Wk.of (by simp only [go_sem, ↓List.forall_mem_cons, List.not_mem_nil, false_implies, implies_true, and_true, true_and, and_self, Nat.reduceEqDiff, reduceIte, ↓reduceIte, ri_eq, Int.natCast_add, Int.cast_ofNat_Int, rr_eq, cr, Int.add_zero]; try simp) rfl) ?_
    intro k hk
    refine SW_of_vc Try.mixed _ _ _ (by kernel_rfl) ?_
    by_cases hki : k < i
    · skip
      have hri := hw.2.1 i (by omega)
      have c2 := c1 i (by omega)
      have c3 := cr_b (L := L) hw (i := i) (by omega)
      have c4 := c3 k (by omega)
      have c5 := (hw.2.2.1 i k (by omega) (by omega)).1
      have g1 : (ints (mrow M i))[k]? = some (.val (.int .i64 (mat M i k))) := ints_get' hri (by omega)
      have hct : cr M L i (k + 1) = cr M L i k + ct M L i k := rfl
      unfold ct at hct
      by_cases he : L.getD i 0 = L.getD k 0
      · rw [if_pos he] at hct
        generalize mat M i k = a at *
        by_cases p1 : 0 < a
        · have e : cc M L i + cr M L i (k + 1) = cc M L i + cr M L i k + 0 := by omega
          simp (disch := omega) only [Try.ntmps131, Try.results131, go_sem, Nat.reduceLT, Nat.reduceLeDiff, Nat.reduceEqDiff, Nat.reduceAdd, Nat.reduceSub, Nat.reduceMul, reduceIte, ↓reduceIte, reduceCtorEq, Int.reduceToNat, Int.reduceLE, Int.reduceLT, Int.reduceNeg, Int.reduceSub, Int.reduceAdd, Int.reduceMul, rr_eq, rows_get, hri, g1, he]
          exact ⟨k + 1, by omega, by omega, Wk.of (by simp only [go_sem, ↓List.forall_mem_cons, List.not_mem_nil, false_implies, implies_true, and_true, true_and, and_self, Nat.reduceEqDiff, reduceIte, ↓reduceIte, ri_eq, Int.natCast_add, Int.cast_ofNat_Int, rr_eq, e, Int.add_zero, Int.sub_eq_add_neg]; try simp) rfl⟩
        · by_cases p2 : a < 0
          · have e : cc M L i + cr M L i (k + 1) = cc M L i + cr M L i k + -a := by omega
            simp (disch := omega) only [Try.ntmps131, Try.results131, go_sem, Nat.reduceLT, Nat.reduceLeDiff, Nat.reduceEqDiff, Nat.reduceAdd, Nat.reduceSub, Nat.reduceMul, reduceIte, ↓reduceIte, reduceCtorEq, Int.reduceToNat, Int.reduceLE, Int.reduceLT, Int.reduceNeg, Int.reduceSub, Int.reduceAdd, Int.reduceMul, rr_eq, rows_get, hri, g1, he]
            exact ⟨k + 1, by omega, by omega, Wk.of (by simp only [go_sem, ↓List.forall_mem_cons, List.not_mem_nil, false_implies, implies_true, and_true, true_and, and_self, Nat.reduceEqDiff, reduceIte, ↓reduceIte, ri_eq, Int.natCast_add, Int.cast_ofNat_Int, rr_eq, e, Int.add_zero, Int.sub_eq_add_neg]; try simp) rfl⟩
          · have e : cc M L i + cr M L i (k + 1) = cc M L i + cr M L i k + 0 := by omega
            simp (disch := omega) only [Try.ntmps131, Try.results131, go_sem, Nat.reduceLT, Nat.reduceLeDiff, Nat.reduceEqDiff, Nat.reduceAdd, Nat.reduceSub, Nat.reduceMul, reduceIte, ↓reduceIte, reduceCtorEq, Int.reduceToNat, Int.reduceLE, Int.reduceLT, Int.reduceNeg, Int.reduceSub, Int.reduceAdd, Int.reduceMul, rr_eq, rows_get, hri, g1, he]
            exact ⟨k + 1, by omega, by omega, Wk.of (by simp only [go_sem, ↓List.forall_mem_cons, List.not_mem_nil, false_implies, implies_true, and_true, true_and, and_self, Nat.reduceEqDiff, reduceIte, ↓reduceIte, ri_eq, Int.natCast_add, Int.cast_ofNat_Int, rr_eq, e, Int.add_zero, Int.sub_eq_add_neg]; try simp) rfl⟩
      · rw [if_neg he] at hct
        generalize mat M i k = a at *
        by_cases p1 : 0 < a
        · have e : cc M L i + cr M L i (k + 1) = cc M L i + cr M L i k + a := by omega
          simp (disch := omega) only [Try.ntmps131, Try.results131, go_sem, Nat.reduceLT, Nat.reduceLeDiff, Nat.reduceEqDiff, Nat.reduceAdd, Nat.reduceSub, Nat.reduceMul, reduceIte, ↓reduceIte, reduceCtorEq, Int.reduceToNat, Int.reduceLE, Int.reduceLT, Int.reduceNeg, Int.reduceSub, Int.reduceAdd, Int.reduceMul, rr_eq, rows_get, hri, g1]
          exact ⟨k + 1, by omega, by omega, Wk.of (by simp only [go_sem, ↓List.forall_mem_cons, List.not_mem_nil, false_implies, implies_true, and_true, true_and, and_self, Nat.reduceEqDiff, reduceIte, ↓reduceIte, ri_eq, Int.natCast_add, Int.cast_ofNat_Int, rr_eq, e, Int.add_zero, Int.sub_eq_add_neg]; try simp) rfl⟩
        · by_cases p2 : a < 0
          · have e : cc M L i + cr M L i (k + 1) = cc M L i + cr M L i k + 0 := by omega
            simp (disch := omega) only [Try.ntmps131, Try.results131, go_sem, Nat.reduceLT, Nat.reduceLeDiff, Nat.reduceEqDiff, Nat.reduceAdd, Nat.reduceSub, Nat.reduceMul, reduceIte, ↓reduceIte, reduceCtorEq, Int.reduceToNat, Int.reduceLE, Int.reduceLT, Int.reduceNeg, Int.reduceSub, Int.reduceAdd, Int.reduceMul, rr_eq, rows_get, hri, g1]
            exact ⟨k + 1, by omega, by omega, Wk.of (by simp only [go_sem, ↓List.forall_mem_cons, List.not_mem_nil, false_implies, implies_true, and_true, true_and, and_self, Nat.reduceEqDiff, reduceIte, ↓reduceIte, ri_eq, Int.natCast_add, Int.cast_ofNat_Int, rr_eq, e, Int.add_zero, Int.sub_eq_add_neg]; try simp) rfl⟩
          · have e : cc M L i + cr M L i (k + 1) = cc M L i + cr M L i k + 0 := by omega
            simp (disch := omega) only [Try.ntmps131, Try.results131, go_sem, Nat.reduceLT, Nat.reduceLeDiff, Nat.reduceEqDiff, Nat.reduceAdd, Nat.reduceSub, Nat.reduceMul, reduceIte, ↓reduceIte, reduceCtorEq, Int.reduceToNat, Int.reduceLE, Int.reduceLT, Int.reduceNeg, Int.reduceSub, Int.reduceAdd, Int.reduceMul, rr_eq, rows_get, hri, g1]
            exact ⟨k + 1, by omega, by omega, Wk.of (by simp only [go_sem, ↓List.forall_mem_cons, List.not_mem_nil, false_implies, implies_true, and_true, true_and, and_self, Nat.reduceEqDiff, reduceIte, ↓reduceIte, ri_eq, Int.natCast_add, Int.cast_ofNat_Int, rr_eq, e, Int.add_zero, Int.sub_eq_add_neg]; try simp) rfl⟩
    · obtain rfl : k = i := by omega
      have ec : cc M L (k + 1) = cc M L k + cr M L k k := rfl
      simp (disch := omega) only [Try.ntmps131, Try.results131, go_sem, Nat.reduceLT, Nat.reduceLeDiff, Nat.reduceEqDiff, Nat.reduceAdd, Nat.reduceSub, Nat.reduceMul, reduceIte, ↓reduceIte, reduceCtorEq, Int.reduceToNat, Int.reduceLE, Int.reduceLT, Int.reduceNeg, Int.reduceSub, Int.reduceAdd, Int.reduceMul, rr_eq]
      exact ⟨k + 1, by omega, by omega, Wk.of (by simp only [go_sem, ↓List.forall_mem_cons, List.not_mem_nil, false_implies, implies_true, and_true, true_and, and_self, Nat.reduceEqDiff, reduceIte, ↓reduceIte, ri_eq, Int.natCast_add, Int.cast_ofNat_Int, rr_eq, ec]; try simp) rfl⟩
  · obtain rfl : i = L.length := by omega
    simp (disch := omega) only [Try.ntmps131, Try.results131, go_sem, Nat.reduceLT, Nat.reduceLeDiff, Nat.reduceEqDiff, Nat.reduceAdd, Nat.reduceSub, Nat.reduceMul, reduceIte, ↓reduceIte, reduceCtorEq, Int.reduceToNat, Int.reduceLE, Int.reduceLT, Int.reduceNeg, Int.reduceSub, Int.reduceAdd, Int.reduceMul, rr_eq]
    exact Fin.val rfl

set_option maxHeartbeats 1000000 in
theorem Try.implPartitionCost_ok (M : List (List Int)) (L : List Int) (hM : M.length ≤ 1048576) (hR : ∀ i, i < M.length → (mrow M i).length ≤ 1048576) (hL : L.length ≤ 1048576) : PCall Try.prog 68 [rr M, ri L] (.val (.int .i64 (pcost M L))) := by
  refine FCall.pcall (R := fun r _ => r = .val (.int .i64 (pcost M L))) ?_ 0 (by rintro r H rfl; exact view_int)
  refine FCall.of_body Try.func68 rfl (by kernel_rfl) (by simp [Try.ntmps68]) ?_
  refine SW_of_vc Try.mixed _ _ _ (by kernel_rfl) ?_
  have w1 := Try.implIsWM_ok M hM hR
  have w2 := Try.implIsPartition_ok L hL
  rcases Bool.eq_false_or_eq_true (isWM M) with h1 | h1
  · rw [h1] at w1
    have hw := WM_of h1
    rcases Bool.eq_false_or_eq_true (isPart L) with h2 | h2
    · rw [h2] at w2
      by_cases h3 : L.length = M.length
      · have hp : pcost M L = cc M L L.length := if_pos ⟨h1, h2, h3⟩
        rw [hp]
        have w3 := Try.implCost_ok M L hw h3
        simp (disch := omega) only [Try.ntmps68, Try.results68, go_sem, Nat.reduceLT, Nat.reduceLeDiff, Nat.reduceEqDiff, Nat.reduceAdd, Nat.reduceSub, Nat.reduceMul, reduceIte, ↓reduceIte, reduceCtorEq, Int.reduceToNat, Int.reduceLE, Int.reduceLT, Int.reduceNeg, Int.reduceSub, Int.reduceAdd, Int.reduceMul, rr_eq]
        refine w1.callV 0 (viewL_cons_of (view_row) viewL_nil_of) ?_
        simp (disch := omega) only [Try.ntmps68, Try.results68, go_sem, Nat.reduceLT, Nat.reduceLeDiff, Nat.reduceEqDiff, Nat.reduceAdd, Nat.reduceSub, Nat.reduceMul, reduceIte, ↓reduceIte, reduceCtorEq, Int.reduceToNat, Int.reduceLE, Int.reduceLT, Int.reduceNeg, Int.reduceSub, Int.reduceAdd, Int.reduceMul, rr_eq]
        refine w2.callV 0 (viewL_cons_of (view_rowL (by first | rfl | simp [marks_length, canon_length] | omega)) viewL_nil_of) ?_
        simp (disch := omega) only [Try.ntmps68, Try.results68, go_sem, Nat.reduceLT, Nat.reduceLeDiff, Nat.reduceEqDiff, Nat.reduceAdd, Nat.reduceSub, Nat.reduceMul, reduceIte, ↓reduceIte, reduceCtorEq, Int.reduceToNat, Int.reduceLE, Int.reduceLT, Int.reduceNeg, Int.reduceSub, Int.reduceAdd, Int.reduceMul, rr_eq]
        refine w3.callV 0 (viewL_cons_of (view_row) (viewL_cons_of (view_rowL (by first | rfl | simp [marks_length, canon_length] | omega)) viewL_nil_of)) ?_
        simp (disch := omega) only [Try.ntmps68, Try.results68, go_sem, Nat.reduceLT, Nat.reduceLeDiff, Nat.reduceEqDiff, Nat.reduceAdd, Nat.reduceSub, Nat.reduceMul, reduceIte, ↓reduceIte, reduceCtorEq, Int.reduceToNat, Int.reduceLE, Int.reduceLT, Int.reduceNeg, Int.reduceSub, Int.reduceAdd, Int.reduceMul, rr_eq]
        exact Fin.val rfl
      · have hp : pcost M L = -1 := if_neg (fun h => h3 h.2.2)
        rw [hp]
        simp (disch := omega) only [Try.ntmps68, Try.results68, go_sem, Nat.reduceLT, Nat.reduceLeDiff, Nat.reduceEqDiff, Nat.reduceAdd, Nat.reduceSub, Nat.reduceMul, reduceIte, ↓reduceIte, reduceCtorEq, Int.reduceToNat, Int.reduceLE, Int.reduceLT, Int.reduceNeg, Int.reduceSub, Int.reduceAdd, Int.reduceMul, rr_eq]
        refine w1.callV 0 (viewL_cons_of (view_row) viewL_nil_of) ?_
        simp (disch := omega) only [Try.ntmps68, Try.results68, go_sem, Nat.reduceLT, Nat.reduceLeDiff, Nat.reduceEqDiff, Nat.reduceAdd, Nat.reduceSub, Nat.reduceMul, reduceIte, ↓reduceIte, reduceCtorEq, Int.reduceToNat, Int.reduceLE, Int.reduceLT, Int.reduceNeg, Int.reduceSub, Int.reduceAdd, Int.reduceMul, rr_eq]
        refine w2.callV 0 (viewL_cons_of (view_rowL (by first | rfl | simp [marks_length, canon_length] | omega)) viewL_nil_of) ?_
        simp (disch := omega) only [Try.ntmps68, Try.results68, go_sem, Nat.reduceLT, Nat.reduceLeDiff, Nat.reduceEqDiff, Nat.reduceAdd, Nat.reduceSub, Nat.reduceMul, reduceIte, ↓reduceIte, reduceCtorEq, Int.reduceToNat, Int.reduceLE, Int.reduceLT, Int.reduceNeg, Int.reduceSub, Int.reduceAdd, Int.reduceMul, rr_eq]
        exact Fin.val rfl
    · rw [h2] at w2
      have hp : pcost M L = -1 := if_neg (fun h => by rw [h2] at h; cases h.2.1)
      rw [hp]
      simp (disch := omega) only [Try.ntmps68, Try.results68, go_sem, Nat.reduceLT, Nat.reduceLeDiff, Nat.reduceEqDiff, Nat.reduceAdd, Nat.reduceSub, Nat.reduceMul, reduceIte, ↓reduceIte, reduceCtorEq, Int.reduceToNat, Int.reduceLE, Int.reduceLT, Int.reduceNeg, Int.reduceSub, Int.reduceAdd, Int.reduceMul, rr_eq]
      refine w1.callV 0 (viewL_cons_of (view_row) viewL_nil_of) ?_
      simp (disch := omega) only [Try.ntmps68, Try.results68, go_sem, Nat.reduceLT, Nat.reduceLeDiff, Nat.reduceEqDiff, Nat.reduceAdd, Nat.reduceSub, Nat.reduceMul, reduceIte, ↓reduceIte, reduceCtorEq, Int.reduceToNat, Int.reduceLE, Int.reduceLT, Int.reduceNeg, Int.reduceSub, Int.reduceAdd, Int.reduceMul, rr_eq]
      refine w2.callV 0 (viewL_cons_of (view_rowL (by first | rfl | simp [marks_length, canon_length] | omega)) viewL_nil_of) ?_
      simp (disch := omega) only [Try.ntmps68, Try.results68, go_sem, Nat.reduceLT, Nat.reduceLeDiff, Nat.reduceEqDiff, Nat.reduceAdd, Nat.reduceSub, Nat.reduceMul, reduceIte, ↓reduceIte, reduceCtorEq, Int.reduceToNat, Int.reduceLE, Int.reduceLT, Int.reduceNeg, Int.reduceSub, Int.reduceAdd, Int.reduceMul, rr_eq]
      exact Fin.val rfl
  · rw [h1] at w1
    have hp : pcost M L = -1 := if_neg (fun h => by rw [h1] at h; cases h.1)
    rw [hp]
    simp (disch := omega) only [Try.ntmps68, Try.results68, go_sem, Nat.reduceLT, Nat.reduceLeDiff, Nat.reduceEqDiff, Nat.reduceAdd, Nat.reduceSub, Nat.reduceMul, reduceIte, ↓reduceIte, reduceCtorEq, Int.reduceToNat, Int.reduceLE, Int.reduceLT, Int.reduceNeg, Int.reduceSub, Int.reduceAdd, Int.reduceMul, rr_eq]
    refine w1.callV 0 (viewL_cons_of (view_row) viewL_nil_of) ?_
    simp (disch := omega) only [Try.ntmps68, Try.results68, go_sem, Nat.reduceLT, Nat.reduceLeDiff, Nat.reduceEqDiff, Nat.reduceAdd, Nat.reduceSub, Nat.reduceMul, reduceIte, ↓reduceIte, reduceCtorEq, Int.reduceToNat, Int.reduceLE, Int.reduceLT, Int.reduceNeg, Int.reduceSub, Int.reduceAdd, Int.reduceMul, rr_eq]
    exact Fin.val rfl

set_option maxHeartbeats 1000000 in
theorem Try.specPartitionCost_ok (M : List (List Int)) (L : List Int) (hM : M.length ≤ 1048576) (hR : ∀ i, i < M.length → (mrow M i).length ≤ 1048576) (hL : L.length ≤ 1048576) : PCall Try.prog 57 [rr M, ri L] (.val (.int .i64 (pcost M L))) := by
  refine FCall.pcall (R := fun r _ => r = .val (.int .i64 (pcost M L))) ?_ 0 (by rintro r H rfl; exact view_int)
  refine FCall.of_body Try.func57 rfl (by kernel_rfl) (by simp [Try.ntmps57]) ?_
  refine SW_of_vc Try.mixed _ _ _ (by kernel_rfl) ?_
  have w1 := Try.specIsWM_ok M hM hR
  have w2 := Try.specIsPartition_ok L hL
  rcases Bool.eq_false_or_eq_true (isWM M) with h1 | h1
  · rw [h1] at w1
    have hw := WM_of h1
    rcases Bool.eq_false_or_eq_true (isPart L) with h2 | h2
    · rw [h2] at w2
      by_cases h3 : L.length = M.length
      · have hp : pcost M L = cc M L L.length := if_pos ⟨h1, h2, h3⟩
        rw [hp]
        have w3 := Try.specCost_ok M L hw h3
        simp (disch := omega) only [Try.ntmps57, Try.results57, go_sem, Nat.reduceLT, Nat.reduceLeDiff, Nat.reduceEqDiff, Nat.reduceAdd, Nat.reduceSub, Nat.reduceMul, reduceIte, ↓reduceIte, reduceCtorEq, Int.reduceToNat, Int.reduceLE, Int.reduceLT, Int.reduceNeg, Int.reduceSub, Int.reduceAdd, Int.reduceMul, rr_eq]
        refine w1.callV 0 (viewL_cons_of (view_row) viewL_nil_of) ?_
        simp (disch := omega) only [Try.ntmps57, Try.results57, go_sem, Nat.reduceLT, Nat.reduceLeDiff, Nat.reduceEqDiff, Nat.reduceAdd, Nat.reduceSub, Nat.reduceMul, reduceIte, ↓reduceIte, reduceCtorEq, Int.reduceToNat, Int.reduceLE, Int.reduceLT, Int.reduceNeg, Int.reduceSub, Int.reduceAdd, Int.reduceMul, rr_eq]
        refine w2.callV 0 (viewL_cons_of (view_rowL (by first | rfl | simp [marks_length, canon_length] | omega)) viewL_nil_of) ?_
        simp (disch := omega) only [Try.ntmps57, Try.results57, go_sem, Nat.reduceLT, Nat.reduceLeDiff, Nat.reduceEqDiff, Nat.reduceAdd, Nat.reduceSub, Nat.reduceMul, reduceIte, ↓reduceIte, reduceCtorEq, Int.reduceToNat, Int.reduceLE, Int.reduceLT, Int.reduceNeg, Int.reduceSub, Int.reduceAdd, Int.reduceMul, rr_eq]
        refine w3.callV 0 (viewL_cons_of (view_row) (viewL_cons_of (view_rowL (by first | rfl | simp [marks_length, canon_length] | omega)) viewL_nil_of)) ?_
        simp (disch := omega) only [Try.ntmps57, Try.results57, go_sem, Nat.reduceLT, Nat.reduceLeDiff, Nat.reduceEqDiff, Nat.reduceAdd, Nat.reduceSub, Nat.reduceMul, reduceIte, ↓reduceIte, reduceCtorEq, Int.reduceToNat, Int.reduceLE, Int.reduceLT, Int.reduceNeg, Int.reduceSub, Int.reduceAdd, Int.reduceMul, rr_eq]
        exact Fin.val rfl
      · have hp : pcost M L = -1 := if_neg (fun h => h3 h.2.2)
        rw [hp]
        simp (disch := omega) only [Try.ntmps57, Try.results57, go_sem, Nat.reduceLT, Nat.reduceLeDiff, Nat.reduceEqDiff, Nat.reduceAdd, Nat.reduceSub, Nat.reduceMul, reduceIte, ↓reduceIte, reduceCtorEq, Int.reduceToNat, Int.reduceLE, Int.reduceLT, Int.reduceNeg, Int.reduceSub, Int.reduceAdd, Int.reduceMul, rr_eq]
        refine w1.callV 0 (viewL_cons_of (view_row) viewL_nil_of) ?_
        simp (disch := omega) only [Try.ntmps57, Try.results57, go_sem, Nat.reduceLT, Nat.reduceLeDiff, Nat.reduceEqDiff, Nat.reduceAdd, Nat.reduceSub, Nat.reduceMul, reduceIte, ↓reduceIte, reduceCtorEq, Int.reduceToNat, Int.reduceLE, Int.reduceLT, Int.reduceNeg, Int.reduceSub, Int.reduceAdd, Int.reduceMul, rr_eq]
        refine w2.callV 0 (viewL_cons_of (view_rowL (by first | rfl | simp [marks_length, canon_length] | omega)) viewL_nil_of) ?_
        simp (disch := omega) only [Try.ntmps57, Try.results57, go_sem, Nat.reduceLT, Nat.reduceLeDiff, Nat.reduceEqDiff, Nat.reduceAdd, Nat.reduceSub, Nat.reduceMul, reduceIte, ↓reduceIte, reduceCtorEq, Int.reduceToNat, Int.reduceLE, Int.reduceLT, Int.reduceNeg, Int.reduceSub, Int.reduceAdd, Int.reduceMul, rr_eq]
        exact Fin.val rfl
    · rw [h2] at w2
      have hp : pcost M L = -1 := if_neg (fun h => by rw [h2] at h; cases h.2.1)
      rw [hp]
      simp (disch := omega) only [Try.ntmps57, Try.results57, go_sem, Nat.reduceLT, Nat.reduceLeDiff, Nat.reduceEqDiff, Nat.reduceAdd, Nat.reduceSub, Nat.reduceMul, reduceIte, ↓reduceIte, reduceCtorEq, Int.reduceToNat, Int.reduceLE, Int.reduceLT, Int.reduceNeg, Int.reduceSub, Int.reduceAdd, Int.reduceMul, rr_eq]
      refine w1.callV 0 (viewL_cons_of (view_row) viewL_nil_of) ?_
      simp (disch := omega) only [Try.ntmps57, Try.results57, go_sem, Nat.reduceLT, Nat.reduceLeDiff, Nat.reduceEqDiff, Nat.reduceAdd, Nat.reduceSub, Nat.reduceMul, reduceIte, ↓reduceIte, reduceCtorEq, Int.reduceToNat, Int.reduceLE, Int.reduceLT, Int.reduceNeg, Int.reduceSub, Int.reduceAdd, Int.reduceMul, rr_eq]
      refine w2.callV 0 (viewL_cons_of (view_rowL (by first | rfl | simp [marks_length, canon_length] | omega)) viewL_nil_of) ?_
      simp (disch := omega) only [Try.ntmps57, Try.results57, go_sem, Nat.reduceLT, Nat.reduceLeDiff, Nat.reduceEqDiff, Nat.reduceAdd, Nat.reduceSub, Nat.reduceMul, reduceIte, ↓reduceIte, reduceCtorEq, Int.reduceToNat, Int.reduceLE, Int.reduceLT, Int.reduceNeg, Int.reduceSub, Int.reduceAdd, Int.reduceMul, rr_eq]
      exact Fin.val rfl
  · rw [h1] at w1
    have hp : pcost M L = -1 := if_neg (fun h => by rw [h1] at h; cases h.1)
    rw [hp]
    simp (disch := omega) only [Try.ntmps57, Try.results57, go_sem, Nat.reduceLT, Nat.reduceLeDiff, Nat.reduceEqDiff, Nat.reduceAdd, Nat.reduceSub, Nat.reduceMul, reduceIte, ↓reduceIte, reduceCtorEq, Int.reduceToNat, Int.reduceLE, Int.reduceLT, Int.reduceNeg, Int.reduceSub, Int.reduceAdd, Int.reduceMul, rr_eq]
    refine w1.callV 0 (viewL_cons_of (view_row) viewL_nil_of) ?_
    simp (disch := omega) only [Try.ntmps57, Try.results57, go_sem, Nat.reduceLT, Nat.reduceLeDiff, Nat.reduceEqDiff, Nat.reduceAdd, Nat.reduceSub, Nat.reduceMul, reduceIte, ↓reduceIte, reduceCtorEq, Int.reduceToNat, Int.reduceLE, Int.reduceLT, Int.reduceNeg, Int.reduceSub, Int.reduceAdd, Int.reduceMul, rr_eq]
    exact Fin.val rfl

end Go.Sh

/-
  Contracts: an item moved to another block. Of the program.
-/
namespace Go.Sh
set_option linter.unusedSimpArgs false
set_option linter.unusedVariables false
open Go Go.Proofs

def top (L : List Int) (k : Nat) : Int := (L.take k).foldl max (-1)
theorem top_zero (L : List Int) : top L 0 = -1 := rfl
theorem top_succ {L : List Int} {k : Nat} (h : k < L.length) : top L (k + 1) = max (top L k) (L.getD k 0) := by
  rw [top, List.take_succ_eq_append_getElem h, List.foldl_append]
  simp [top, h]
theorem top_ge (L : List Int) : ∀ k, k ≤ L.length → -1 ≤ top L k
  | 0, _ => by rw [top_zero]; omega
  | k + 1, h => by
    have := top_ge L k (by omega)
    rw [top_succ (by omega)]; omega
theorem top_part {L : List Int} (h : isPart L = true) : ∀ k, k ≤ L.length → top L k ≤ 7
  | 0, _ => by rw [top_zero]; omega
  | k + 1, hk => by
    have := top_part h k (by omega)
    have := (isPart_bound h (i := k) (by omega)).2
    rw [top_succ (by omega)]; omega
def moveOk (L : List Int) (it bl : Int) : Bool := isPart L && (inR it 0 ((L.length : Int) - 1) && inR bl 0 (top L L.length + 1))
def moveTo (L : List Int) (it bl : Int) : List Int := if moveOk L it bl = true then canon (L.set it.toNat bl) else L
theorem moveTo_length (L : List Int) (it bl : Int) : (moveTo L it bl).length = L.length := by
  unfold moveTo
  split
  · rw [canon_length]; simp
  · rfl

set_option maxHeartbeats 1000000 in
theorem Try.slicesMax_ok (L : List Int) (h : isPart L = true) : PCall Try.prog 180 [ri L] (.val (.int .i64 (top L L.length))) := by
  obtain ⟨l1, l2⟩ := isPart_len h
  have b0 := isPart_bound h (i := 0) (by omega)
  have t1 : top L 1 = L.getD 0 0 := by
    have := top_succ (L := L) (k := 0) (by omega)
    rw [top_zero, Int.max_def] at this
    rw [this, if_pos (by omega)]
  refine FCall.pcall (R := fun r _ => r = .val (.int .i64 (top L L.length))) ?_ 0 (by rintro r H rfl; exact view_int)
  refine FCall.of_body Try.func180 rfl (by kernel_rfl) (by simp [Try.ntmps180]) ?_
  refine SW_of_vc Try.mixed _ _ _ (by kernel_rfl) ?_
  simp (disch := omega) only [Try.ntmps180, Try.results180, go_sem, Nat.reduceLT, Nat.reduceLeDiff, Nat.reduceEqDiff, Nat.reduceAdd, Nat.reduceSub, Nat.reduceMul, reduceIte, ↓reduceIte, reduceCtorEq, Int.reduceToNat, Int.reduceLE, Int.reduceLT, Int.reduceNeg, Int.reduceSub, Int.reduceAdd, Int.reduceMul]
  refine LoopW.loop (fun k : Nat => ⟨ofL [(0, ri L), (3, .val (.int .i64 (top L k))), (4, .val (.int .i64 k))], hp [] 0⟩) (fun k => 1 ≤ k ∧ k ≤ L.length) (fun k => L.length - k) 1 ⟨by omega, by omega⟩ (Wk.of (by simp only [go_sem, ↓List.forall_mem_cons, List.not_mem_nil, false_implies, implies_true, and_true, true_and, and_self, Nat.reduceEqDiff, reduceIte, ↓reduceIte, ri_eq, Int.natCast_add, Int.cast_ofNat_Int, t1]; try simp) rfl) ?_
  rintro k ⟨hk1, hk⟩
  refine SW_of_vc Try.mixed _ _ _ (by kernel_rfl) ?_
  by_cases hlt : k < L.length
  · have e : top L (k + 1) = if top L k < L.getD k 0 then L.getD k 0 else top L k := by
      rw [top_succ hlt, Int.max_def]
      split <;> split <;> omega
    simp (disch := omega) only [Try.ntmps180, Try.results180, go_sem, Nat.reduceLT, Nat.reduceLeDiff, Nat.reduceEqDiff, Nat.reduceAdd, Nat.reduceSub, Nat.reduceMul, reduceIte, ↓reduceIte, reduceCtorEq, Int.reduceToNat, Int.reduceLE, Int.reduceLT, Int.reduceNeg, Int.reduceSub, Int.reduceAdd, Int.reduceMul]
    exact ⟨k + 1, ⟨by omega, by omega⟩, by omega, Wk.of (by simp only [go_sem, ↓List.forall_mem_cons, List.not_mem_nil, false_implies, implies_true, and_true, true_and, and_self, Nat.reduceEqDiff, reduceIte, ↓reduceIte, ri_eq, Int.natCast_add, Int.cast_ofNat_Int, e]; try simp) rfl⟩
  · obtain rfl : k = L.length := by omega
    simp (disch := omega) only [Try.ntmps180, Try.results180, go_sem, Nat.reduceLT, Nat.reduceLeDiff, Nat.reduceEqDiff, Nat.reduceAdd, Nat.reduceSub, Nat.reduceMul, reduceIte, ↓reduceIte, reduceCtorEq, Int.reduceToNat, Int.reduceLE, Int.reduceLT, Int.reduceNeg, Int.reduceSub, Int.reduceAdd, Int.reduceMul]
    exact Fin.val rfl

theorem Try.blockCount_ok (L : List Int) (h : isPart L = true) : PCall Try.prog 152 [ri L] (.val (.int .i64 (top L L.length + 1))) := by
  have h1 := top_ge L L.length (Nat.le_refl _)
  have h2 := top_part h L.length (Nat.le_refl _)
  refine FCall.pcall (R := fun r _ => r = .val (.int .i64 (top L L.length + 1))) ?_ 0 (by rintro r H rfl; exact view_int)
  refine FCall.of_body Try.func152 rfl (by kernel_rfl) (by simp [Try.ntmps152]) ?_
  refine SW_of_vc Try.mixed _ _ _ (by kernel_rfl) ?_
  simp (disch := omega) only [Try.ntmps152, Try.results152, go_sem, Nat.reduceLT, Nat.reduceLeDiff, Nat.reduceEqDiff, Nat.reduceAdd, Nat.reduceSub, Nat.reduceMul, reduceIte, ↓reduceIte, reduceCtorEq, Int.reduceToNat, Int.reduceLE, Int.reduceLT, Int.reduceNeg, Int.reduceSub, Int.reduceAdd, Int.reduceMul]
  refine (Try.slicesMax_ok L h).callV 0 (viewL_cons_of (view_rowL (by first | rfl | simp [marks_length, canon_length] | omega)) viewL_nil_of) ?_
  simp (disch := omega) only [Try.ntmps152, Try.results152, go_sem, Nat.reduceLT, Nat.reduceLeDiff, Nat.reduceEqDiff, Nat.reduceAdd, Nat.reduceSub, Nat.reduceMul, reduceIte, ↓reduceIte, reduceCtorEq, Int.reduceToNat, Int.reduceLE, Int.reduceLT, Int.reduceNeg, Int.reduceSub, Int.reduceAdd, Int.reduceMul]
  exact Fin.val rfl

theorem Try.clone_f (L : List Int) (hL : L.length ≤ 1048576) (h0 : 0 < L.length) : FCall Try.prog 148 [ri L] (FlatRes L.length 1 (ints L)) := by
  have hf := ints_flat L
  refine FCall.of_body Try.func148 rfl (by kernel_rfl) (by simp [Try.ntmps148]) ?_
  refine SW_of_vc Try.mixed _ _ _ (by kernel_rfl) ?_
  simp (disch := omega) only [Try.ntmps148, Try.results148, go_sem, Nat.reduceLT, Nat.reduceLeDiff, Nat.reduceEqDiff, Nat.reduceAdd, Nat.reduceSub, Nat.reduceMul, reduceIte, ↓reduceIte, reduceCtorEq, Int.reduceToNat, Int.reduceLE, Int.reduceLT, Int.reduceNeg, Int.reduceSub, Int.reduceAdd, Int.reduceMul, hf]
  exact fin_ints rfl (by rw [hp_map, hmap_cons, if_pos rfl])

/-- Of an empty slice that is not nil. -/
theorem Try.clone_0 (H : Heap) (b cap : Nat) (ex e2 : Bool) (hb : H.map b = some ⟨ints [], e2⟩) (hbn : b ≠ H.nb) : CallS Try.prog 148 [.own b 0 0 cap 1 ex] H (fun r H' => r = .own H.nb 0 0 0 1 false ∧ H' = H.push ⟨[], false⟩) := by
  refine CallS.of_body Try.func148 rfl (by kernel_rfl) (by simp [Try.ntmps148]) ?_
  refine SW_of_vc Try.mixed _ _ _ (by kernel_rfl) ?_
  have p1 : (H.push ⟨[], false⟩).map H.nb = some ⟨[], false⟩ := by simp [Heap.push]
  have p2 : (H.push ⟨[], false⟩).map b = some ⟨ints [], e2⟩ := by simp [Heap.push, hbn, hb]
  simp (disch := omega) only [Try.ntmps148, Try.results148, go_sem, Nat.reduceLT, Nat.reduceLeDiff, Nat.reduceEqDiff, Nat.reduceAdd, Nat.reduceSub, Nat.reduceMul, reduceIte, ↓reduceIte, reduceCtorEq, Int.reduceToNat, Int.reduceLE, Int.reduceLT, Int.reduceNeg, Int.reduceSub, Int.reduceAdd, Int.reduceMul, hb, p1, p2]

set_option maxHeartbeats 1000000 in
theorem Try.moved_f (L : List Int) (it bl : Int) (h : moveOk L it bl = true) : FCall Try.prog 149 [ri L, .val (.int .i64 it), .val (.int .i64 bl)] (FlatRes L.length 1 (ints (moveTo L it bl))) := by
  have hm : moveTo L it bl = canon (L.set it.toNat bl) := by rw [moveTo, if_pos h]
  have hml := moveTo_length L it bl
  unfold moveOk at h
  simp only [Bool.and_eq_true] at h
  obtain ⟨hp1, hi, _⟩ := h
  obtain ⟨l1, l2⟩ := isPart_len hp1
  obtain ⟨i1, i2⟩ := inR_of hi
  have hsl : (L.set it.toNat bl).length = L.length := by simp
  have w2 := (Try.implCanon_f (L.set it.toNat bl) (by omega) (fun e => by rw [e] at hsl; simp at hsl; omega)).one
  rw [hsl] at w2
  refine FCall.of_body Try.func149 rfl (by kernel_rfl) (by simp [Try.ntmps149]) ?_
  refine SW_of_vc Try.mixed _ _ _ (by kernel_rfl) ?_
  simp (disch := omega) only [Try.ntmps149, Try.results149, go_sem, Nat.reduceLT, Nat.reduceLeDiff, Nat.reduceEqDiff, Nat.reduceAdd, Nat.reduceSub, Nat.reduceMul, reduceIte, ↓reduceIte, reduceCtorEq, Int.reduceToNat, Int.reduceLE, Int.reduceLT, Int.reduceNeg, Int.reduceSub, Int.reduceAdd, Int.reduceMul]
  refine (Try.clone_f L (by omega) (by omega)).one.callOne (ints_vals L) 0 (viewL_cons_of (view_rowL (by first | rfl | simp [marks_length, canon_length] | omega)) viewL_nil_of) ?_
  simp (disch := omega) only [Try.ntmps149, Try.results149, go_sem, Nat.reduceLT, Nat.reduceLeDiff, Nat.reduceEqDiff, Nat.reduceAdd, Nat.reduceSub, Nat.reduceMul, reduceIte, ↓reduceIte, reduceCtorEq, Int.reduceToNat, Int.reduceLE, Int.reduceLT, Int.reduceNeg, Int.reduceSub, Int.reduceAdd, Int.reduceMul]
  refine w2.callOne (ints_vals _) 1 (viewL_cons_of (view_own (by rw [hp_map, hmap_cons, if_pos rfl]) (by omega)) viewL_nil_of) ?_
  simp (disch := omega) only [Try.ntmps149, Try.results149, go_sem, Nat.reduceLT, Nat.reduceLeDiff, Nat.reduceEqDiff, Nat.reduceAdd, Nat.reduceSub, Nat.reduceMul, reduceIte, ↓reduceIte, reduceCtorEq, Int.reduceToNat, Int.reduceLE, Int.reduceLT, Int.reduceNeg, Int.reduceSub, Int.reduceAdd, Int.reduceMul]
  rw [hm]
  exact fin_ints (by rw [← hm]; omega) (by rw [hp_map, hmap_cons, if_pos rfl])

theorem fin_tup {n z cap b : Nat} {ex e2 : Bool} {cs : List SV} {u : Value} {H : Heap} (hn : cs.length = n * z) (hv : cs.all isVal = true) (hb : H.map b = some ⟨cs, e2⟩) :
    Fin (fun r H => ∃ r0, r = .tup [r0, .val u] ∧ FlatRes n z cs r0 H) (.tup [.own b 0 n cap z ex, .val u]) H := by
  obtain ⟨H2, h1, _, h3, h4⟩ := flat_fin (ex := ex) (cap := cap) hn hv hb
  exact ⟨H2, h1, by simp [noRow, noRowL], h3, _, rfl, h4⟩

set_option maxHeartbeats 2000000 in
theorem Try.implMove_f (L : List Int) (it bl : Int) (hL : L.length ≤ 1048576) (h0 : 0 < L.length) : FCall Try.prog 86 [ri L, .val (.int .i64 it), .val (.int .i64 bl)] (fun r H => ∃ r0, r = .tup [r0, .val (.bool (moveOk L it bl))] ∧ FlatRes L.length 1 (ints (moveTo L it bl)) r0 H) := by
  have w1 := Try.implIsPartition_ok L hL
  have wc := (Try.clone_f L hL h0).one
  have hml := moveTo_length L it bl
  refine FCall.of_body Try.func86 rfl (by kernel_rfl) (by simp [Try.ntmps86]) ?_
  refine SW_of_vc Try.mixed _ _ _ (by kernel_rfl) ?_
  rcases Bool.eq_false_or_eq_true (isPart L) with h1 | h1
  · rw [h1] at w1
    have w2 := Try.isItem_ok it L.length (by omega) (by omega)
    rcases Bool.eq_false_or_eq_true (inR it 0 ((L.length : Int) - 1)) with h2 | h2
    · rw [h2] at w2
      have w3 := Try.blockCount_ok L h1
      have w4 := Try.within_ok bl 0 (top L L.length + 1)
      rcases Bool.eq_false_or_eq_true (inR bl 0 (top L L.length + 1)) with h3 | h3
      · rw [h3] at w4
        have hok : moveOk L it bl = true := by rw [moveOk, h1, h2, h3]; rfl
        have w5 := (Try.moved_f L it bl hok).one
        simp (disch := omega) only [Try.ntmps86, Try.results86, go_sem, Nat.reduceLT, Nat.reduceLeDiff, Nat.reduceEqDiff, Nat.reduceAdd, Nat.reduceSub, Nat.reduceMul, reduceIte, ↓reduceIte, reduceCtorEq, Int.reduceToNat, Int.reduceLE, Int.reduceLT, Int.reduceNeg, Int.reduceSub, Int.reduceAdd, Int.reduceMul]
        refine w1.callV 0 (viewL_cons_of (view_rowL (by first | rfl | simp [marks_length, canon_length] | omega)) viewL_nil_of) ?_
        simp (disch := omega) only [Try.ntmps86, Try.results86, go_sem, Nat.reduceLT, Nat.reduceLeDiff, Nat.reduceEqDiff, Nat.reduceAdd, Nat.reduceSub, Nat.reduceMul, reduceIte, ↓reduceIte, reduceCtorEq, Int.reduceToNat, Int.reduceLE, Int.reduceLT, Int.reduceNeg, Int.reduceSub, Int.reduceAdd, Int.reduceMul]
        refine w2.callV 0 (viewL_cons_of (view_int) (viewL_cons_of (view_int) viewL_nil_of)) ?_
        simp (disch := omega) only [Try.ntmps86, Try.results86, go_sem, Nat.reduceLT, Nat.reduceLeDiff, Nat.reduceEqDiff, Nat.reduceAdd, Nat.reduceSub, Nat.reduceMul, reduceIte, ↓reduceIte, reduceCtorEq, Int.reduceToNat, Int.reduceLE, Int.reduceLT, Int.reduceNeg, Int.reduceSub, Int.reduceAdd, Int.reduceMul]
        refine w3.callV 0 (viewL_cons_of (view_rowL (by first | rfl | simp [marks_length, canon_length] | omega)) viewL_nil_of) ?_
        simp (disch := omega) only [Try.ntmps86, Try.results86, go_sem, Nat.reduceLT, Nat.reduceLeDiff, Nat.reduceEqDiff, Nat.reduceAdd, Nat.reduceSub, Nat.reduceMul, reduceIte, ↓reduceIte, reduceCtorEq, Int.reduceToNat, Int.reduceLE, Int.reduceLT, Int.reduceNeg, Int.reduceSub, Int.reduceAdd, Int.reduceMul]
        refine w4.callV 0 (viewL_cons_of (view_int) (viewL_cons_of (view_int) (viewL_cons_of (view_int) viewL_nil_of))) ?_
        simp (disch := omega) only [Try.ntmps86, Try.results86, go_sem, Nat.reduceLT, Nat.reduceLeDiff, Nat.reduceEqDiff, Nat.reduceAdd, Nat.reduceSub, Nat.reduceMul, reduceIte, ↓reduceIte, reduceCtorEq, Int.reduceToNat, Int.reduceLE, Int.reduceLT, Int.reduceNeg, Int.reduceSub, Int.reduceAdd, Int.reduceMul]
        refine w5.callOne (ints_vals _) 0 (viewL_cons_of (view_rowL (by first | rfl | simp [marks_length, canon_length] | omega)) (viewL_cons_of (view_int) (viewL_cons_of (view_int) viewL_nil_of))) ?_
        simp (disch := omega) only [Try.ntmps86, Try.results86, go_sem, Nat.reduceLT, Nat.reduceLeDiff, Nat.reduceEqDiff, Nat.reduceAdd, Nat.reduceSub, Nat.reduceMul, reduceIte, ↓reduceIte, reduceCtorEq, Int.reduceToNat, Int.reduceLE, Int.reduceLT, Int.reduceNeg, Int.reduceSub, Int.reduceAdd, Int.reduceMul]
        rw [hok]
        exact fin_tup (by simp [ints, hml]) (ints_vals _) (by rw [hp_map, hmap_cons, if_pos rfl])
      · rw [h3] at w4
        have hok : moveOk L it bl = false := by rw [moveOk, h3, Bool.and_false, Bool.and_false]
        have hmt : moveTo L it bl = L := by rw [moveTo, if_neg (by rw [hok]; simp)]
        simp (disch := omega) only [Try.ntmps86, Try.results86, go_sem, Nat.reduceLT, Nat.reduceLeDiff, Nat.reduceEqDiff, Nat.reduceAdd, Nat.reduceSub, Nat.reduceMul, reduceIte, ↓reduceIte, reduceCtorEq, Int.reduceToNat, Int.reduceLE, Int.reduceLT, Int.reduceNeg, Int.reduceSub, Int.reduceAdd, Int.reduceMul]
        refine w1.callV 0 (viewL_cons_of (view_rowL (by first | rfl | simp [marks_length, canon_length] | omega)) viewL_nil_of) ?_
        simp (disch := omega) only [Try.ntmps86, Try.results86, go_sem, Nat.reduceLT, Nat.reduceLeDiff, Nat.reduceEqDiff, Nat.reduceAdd, Nat.reduceSub, Nat.reduceMul, reduceIte, ↓reduceIte, reduceCtorEq, Int.reduceToNat, Int.reduceLE, Int.reduceLT, Int.reduceNeg, Int.reduceSub, Int.reduceAdd, Int.reduceMul]
        refine w2.callV 0 (viewL_cons_of (view_int) (viewL_cons_of (view_int) viewL_nil_of)) ?_
        simp (disch := omega) only [Try.ntmps86, Try.results86, go_sem, Nat.reduceLT, Nat.reduceLeDiff, Nat.reduceEqDiff, Nat.reduceAdd, Nat.reduceSub, Nat.reduceMul, reduceIte, ↓reduceIte, reduceCtorEq, Int.reduceToNat, Int.reduceLE, Int.reduceLT, Int.reduceNeg, Int.reduceSub, Int.reduceAdd, Int.reduceMul]
        refine w3.callV 0 (viewL_cons_of (view_rowL (by first | rfl | simp [marks_length, canon_length] | omega)) viewL_nil_of) ?_
        simp (disch := omega) only [Try.ntmps86, Try.results86, go_sem, Nat.reduceLT, Nat.reduceLeDiff, Nat.reduceEqDiff, Nat.reduceAdd, Nat.reduceSub, Nat.reduceMul, reduceIte, ↓reduceIte, reduceCtorEq, Int.reduceToNat, Int.reduceLE, Int.reduceLT, Int.reduceNeg, Int.reduceSub, Int.reduceAdd, Int.reduceMul]
        refine w4.callV 0 (viewL_cons_of (view_int) (viewL_cons_of (view_int) (viewL_cons_of (view_int) viewL_nil_of))) ?_
        simp (disch := omega) only [Try.ntmps86, Try.results86, go_sem, Nat.reduceLT, Nat.reduceLeDiff, Nat.reduceEqDiff, Nat.reduceAdd, Nat.reduceSub, Nat.reduceMul, reduceIte, ↓reduceIte, reduceCtorEq, Int.reduceToNat, Int.reduceLE, Int.reduceLT, Int.reduceNeg, Int.reduceSub, Int.reduceAdd, Int.reduceMul]
        refine wc.callOne (ints_vals _) 0 (viewL_cons_of (view_rowL (by first | rfl | simp [marks_length, canon_length] | omega)) viewL_nil_of) ?_
        simp (disch := omega) only [Try.ntmps86, Try.results86, go_sem, Nat.reduceLT, Nat.reduceLeDiff, Nat.reduceEqDiff, Nat.reduceAdd, Nat.reduceSub, Nat.reduceMul, reduceIte, ↓reduceIte, reduceCtorEq, Int.reduceToNat, Int.reduceLE, Int.reduceLT, Int.reduceNeg, Int.reduceSub, Int.reduceAdd, Int.reduceMul]
        rw [hok, hmt]
        exact fin_tup (by simp [ints]) (ints_vals _) (by rw [hp_map, hmap_cons, if_pos rfl])
    · rw [h2] at w2
      have hok : moveOk L it bl = false := by rw [moveOk, h2, Bool.false_and, Bool.and_false]
      have hmt : moveTo L it bl = L := by rw [moveTo, if_neg (by rw [hok]; simp)]
      simp (disch := omega) only [Try.ntmps86, Try.results86, go_sem, Nat.reduceLT, Nat.reduceLeDiff, Nat.reduceEqDiff, Nat.reduceAdd, Nat.reduceSub, Nat.reduceMul, reduceIte, ↓reduceIte, reduceCtorEq, Int.reduceToNat, Int.reduceLE, Int.reduceLT, Int.reduceNeg, Int.reduceSub, Int.reduceAdd, Int.reduceMul]
      refine w1.callV 0 (viewL_cons_of (view_rowL (by first | rfl | simp [marks_length, canon_length] | omega)) viewL_nil_of) ?_
      simp (disch := omega) only [Try.ntmps86, Try.results86, go_sem, Nat.reduceLT, Nat.reduceLeDiff, Nat.reduceEqDiff, Nat.reduceAdd, Nat.reduceSub, Nat.reduceMul, reduceIte, ↓reduceIte, reduceCtorEq, Int.reduceToNat, Int.reduceLE, Int.reduceLT, Int.reduceNeg, Int.reduceSub, Int.reduceAdd, Int.reduceMul]
      refine w2.callV 0 (viewL_cons_of (view_int) (viewL_cons_of (view_int) viewL_nil_of)) ?_
      simp (disch := omega) only [Try.ntmps86, Try.results86, go_sem, Nat.reduceLT, Nat.reduceLeDiff, Nat.reduceEqDiff, Nat.reduceAdd, Nat.reduceSub, Nat.reduceMul, reduceIte, ↓reduceIte, reduceCtorEq, Int.reduceToNat, Int.reduceLE, Int.reduceLT, Int.reduceNeg, Int.reduceSub, Int.reduceAdd, Int.reduceMul]
      refine wc.callOne (ints_vals _) 0 (viewL_cons_of (view_rowL (by first | rfl | simp [marks_length, canon_length] | omega)) viewL_nil_of) ?_
      simp (disch := omega) only [Try.ntmps86, Try.results86, go_sem, Nat.reduceLT, Nat.reduceLeDiff, Nat.reduceEqDiff, Nat.reduceAdd, Nat.reduceSub, Nat.reduceMul, reduceIte, ↓reduceIte, reduceCtorEq, Int.reduceToNat, Int.reduceLE, Int.reduceLT, Int.reduceNeg, Int.reduceSub, Int.reduceAdd, Int.reduceMul]
      rw [hok, hmt]
      exact fin_tup (by simp [ints]) (ints_vals _) (by rw [hp_map, hmap_cons, if_pos rfl])
  · rw [h1] at w1
    have hok : moveOk L it bl = false := by rw [moveOk, h1, Bool.false_and]
    have hmt : moveTo L it bl = L := by rw [moveTo, if_neg (by rw [hok]; simp)]
    simp (disch := omega) only [Try.ntmps86, Try.results86, go_sem, Nat.reduceLT, Nat.reduceLeDiff, Nat.reduceEqDiff, Nat.reduceAdd, Nat.reduceSub, Nat.reduceMul, reduceIte, ↓reduceIte, reduceCtorEq, Int.reduceToNat, Int.reduceLE, Int.reduceLT, Int.reduceNeg, Int.reduceSub, Int.reduceAdd, Int.reduceMul]
    refine w1.callV 0 (viewL_cons_of (view_rowL (by first | rfl | simp [marks_length, canon_length] | omega)) viewL_nil_of) ?_
    simp (disch := omega) only [Try.ntmps86, Try.results86, go_sem, Nat.reduceLT, Nat.reduceLeDiff, Nat.reduceEqDiff, Nat.reduceAdd, Nat.reduceSub, Nat.reduceMul, reduceIte, ↓reduceIte, reduceCtorEq, Int.reduceToNat, Int.reduceLE, Int.reduceLT, Int.reduceNeg, Int.reduceSub, Int.reduceAdd, Int.reduceMul]
    refine wc.callOne (ints_vals _) 0 (viewL_cons_of (view_rowL (by first | rfl | simp [marks_length, canon_length] | omega)) viewL_nil_of) ?_
    simp (disch := omega) only [Try.ntmps86, Try.results86, go_sem, Nat.reduceLT, Nat.reduceLeDiff, Nat.reduceEqDiff, Nat.reduceAdd, Nat.reduceSub, Nat.reduceMul, reduceIte, ↓reduceIte, reduceCtorEq, Int.reduceToNat, Int.reduceLE, Int.reduceLT, Int.reduceNeg, Int.reduceSub, Int.reduceAdd, Int.reduceMul]
    rw [hok, hmt]
    exact fin_tup (by simp [ints]) (ints_vals _) (by rw [hp_map, hmap_cons, if_pos rfl])
end Go.Sh

/-
  The best of the orders that begin with each item: plain; of the reference.
-/
namespace Go.Sh
set_option linter.unusedSimpArgs false
set_option linter.unusedVariables false
open Go Go.Proofs

theorem rep_none (zs : List SV) : rep zs 0 = [] := rfl
/-- The first k items of the order that begins with s. -/
def rot (n s k : Nat) : List Int := (List.range k).map fun i => (((s + i) % n : Nat) : Int)
theorem rot_length (n s k : Nat) : (rot n s k).length = k := by simp [rot]
theorem rot_succ (n s k : Nat) : rot n s (k + 1) = rot n s k ++ [(((s + k) % n : Nat) : Int)] := by simp [rot, List.range_succ]
theorem rot_snoc (n s k : Nat) : ints (rot n s k) ++ [.val (.int .i64 (((s + k) % n : Nat) : Int))] = ints (rot n s (k + 1)) := by rw [rot_succ]; simp [ints]
theorem rot_ord {n s : Nat} (h0 : 1 ≤ n) (h8 : n ≤ 8) (hs : s < n) : isOrd n (rot n s n) = true := by
  have : ∀ n : _root_.Fin 9, ∀ s : _root_.Fin 9, 1 ≤ n.val → s.val < n.val → isOrd n.val (rot n.val s.val n.val) = true := by decide +kernel
  exact this ⟨n, by omega⟩ ⟨s, by omega⟩ h0 hs
noncomputable def bpv (M : List (List Int)) : Nat → List Int × Int
  | 0 => ([], -1)
  | s + 1 => if (bpv M s).2 < 0 ∨ cc M (piv M (rot M.length s M.length)) M.length < (bpv M s).2 then (piv M (rot M.length s M.length), cc M (piv M (rot M.length s M.length)) M.length) else bpv M s
theorem bpv_inv {M : List (List Int)} (hw : WM M) : ∀ s, s ≤ M.length → (s = 0 ∨ ((bpv M s).1.length = M.length ∧ 0 ≤ (bpv M s).2))
  | 0, _ => .inl rfl
  | s + 1, hs => by
    have ih := bpv_inv hw s (by omega)
    have hb := cc_b (L := piv M (rot M.length s M.length)) hw M.length (Nat.le_refl _)
    right
    rw [bpv]
    split
    · exact ⟨piv_length ⟨hw, rot_ord (by have := hw.1; omega) hw.1.2 (by omega)⟩, hb.1⟩
    · rename_i h
      rcases ih with rfl | ih
      · simp [bpv] at h
      · exact ih
theorem rot_mod (s k n : Nat) : ((s : Int) + (k : Int)).tmod (n : Int) = (((s + k) % n : Nat) : Int) := by
  rw [← Int.natCast_add]; exact (Int.ofNat_tmod _ _).symm
open Classical in
noncomputable def bp (M : List (List Int)) : List Int × Int := if WM M then bpv M M.length else ([], -1)
theorem bp_t {M : List (List Int)} (h : WM M) : bp M = bpv M M.length := by rw [bp, if_pos h]
theorem bp_f {M : List (List Int)} (h : ¬ WM M) : bp M = ([], -1) := by rw [bp, if_neg h]
abbrev BpR (p : List Int × Int) (r : SV) (H : Heap) : Prop := ∃ r0, r = .tup [r0, .val (.int .i64 p.2)] ∧ FlatRes p.1.length 1 (ints p.1) r0 H

end Go.Sh

/-
  The best of the orders that begin with each item: of the program.
-/
namespace Go.Sh
set_option linter.unusedSimpArgs false
set_option linter.unusedVariables false
open Go Go.Proofs

/-- A slice of ints that is nil as long as it is empty. -/
def nlI (b : Nat) (T : List Int) : SV := if T.length = 0 then .val (.slice none 0 0) else .own b 0 T.length T.length 1 false
def nlH (b : Nat) (T : List Int) : List (Nat × Blk) := if T.length = 0 then [] else [(b, ⟨ints T, false⟩)]
theorem nlI_f {b : Nat} {T : List Int} (h : T.length ≠ 0) : nlI b T = .own b 0 T.length T.length 1 false := if_neg h
theorem nlH_f {b : Nat} {T : List Int} (h : T.length ≠ 0) : nlH b T = [(b, ⟨ints T, false⟩)] := if_neg h
theorem nlI_t {b : Nat} {T : List Int} (h : T.length = 0) : nlI b T = .val (.slice none 0 0) := if_pos h
theorem nlH_t {b : Nat} {T : List Int} (h : T.length = 0) : nlH b T = [] := if_pos h
theorem nlH_in {b : Nat} {T : List Int} {H : Heap} (h : T.length ≠ 0 → H.map b = some ⟨ints T, false⟩) : ∀ q ∈ nlH b T, H.map q.1 = some q.2 := by
  intro q hq
  unfold nlH at hq
  split at hq
  · simp at hq
  · rename_i h0
    simp at hq; subst hq
    exact h h0
theorem nlH_map {b : Nat} {T : List Int} (h : T.length ≠ 0) : hmap (nlH b T) b = some ⟨ints T, false⟩ := by rw [nlH_f h, hmap_cons, if_pos rfl]

theorem nlI_nil (b : Nat) : nlI b [] = .val (.slice none 0 0) := rfl
theorem delB_nlH {b x : Nat} {T : List Int} (h : T.length ≠ 0 → b ≠ x) : delB (nlH b T) x = nlH b T := by
  by_cases h0 : T.length = 0
  · rw [nlH_t h0]; rfl
  · rw [nlH_f h0]; have := h h0; simp [delB, this]

theorem view_tupJ {L : List Int} {n : Nat} {u : Int} {r r0 : SV} {H : Heap} (h : r = .tup [r0, .val (.int .i64 u)]) (hf : FlatRes n 1 (ints L) r0 H) : view H 3 r = some (.tup [ri L, .val (.int .i64 u)]) := by
  subst h
  have h1 : viewL H 2 [r0, .val (.int .i64 u)] = some [ri L, .val (.int .i64 u)] := viewL_cons_of (flat_view hf) (viewL_cons_of view_int viewL_nil_of)
  simp only [view, h1]
theorem bp_len {M : List (List Int)} (hw : WM M) : (bp M).1.length = M.length := by
  rw [bp_t hw]
  rcases bpv_inv hw M.length (Nat.le_refl _) with h | h
  · have := hw.1; omega
  · exact h.1
end Go.Sh

/-
  All items: of the program.
-/
namespace Go.Sh
set_option linter.unusedSimpArgs false
set_option linter.unusedVariables false
open Go Go.Proofs

def allI (k : Nat) : List Int := (List.range k).map fun i : Nat => (i : Int)
theorem allI_length (k : Nat) : (allI k).length = k := by simp [allI]
theorem allI_snoc (k : Nat) : ints (allI k) ++ [.val (.int .i64 (k : Int))] = ints (allI (k + 1)) := by simp [allI, ints, List.range_succ]
theorem allI_at {n k : Nat} (h : k < n) : (allI n).getD k 0 = (k : Int) := by simp [allI, h]

set_option maxHeartbeats 4000000 in
theorem Try.allItems_f (n : Nat) (h1 : 1 ≤ n) (h8 : n ≤ 8) : FCall Try.prog 90 [.val (.int .i64 n)] (FlatRes n 1 (ints (allI n))) := by
  refine FCall.of_body Try.func90 rfl (by kernel_rfl) (by simp [Try.ntmps90]) ?_
  refine SW_of_vc Try.mixed _ _ _ (by kernel_rfl) ?_
  simp (disch := omega) only [Try.ntmps90, Try.results90, go_sem, Nat.reduceLT, Nat.reduceLeDiff, Nat.reduceEqDiff, Nat.reduceAdd, Nat.reduceSub, Nat.reduceMul, reduceIte, ↓reduceIte, reduceCtorEq, Int.reduceToNat, Int.reduceLE, Int.reduceLT, Int.reduceNeg, Int.reduceSub, Int.reduceAdd, Int.reduceMul]
  refine LoopW.loop (fun p : Nat × Nat × Nat => ⟨ofL [(3, nlI p.2.1 (allI p.1)), (5, .val (.int .i64 n)), (6, .val (.int .i64 p.1))], hp (nlH p.2.1 (allI p.1)) p.2.2⟩)
    (fun p => p.1 ≤ n ∧ (p.1 ≠ 0 → p.2.1 < p.2.2)) (fun p => n - p.1) (0, 0, 0) ⟨by simp, fun h => absurd rfl h⟩ (Wk.ofH (by simp only [go_sem, ↓List.forall_mem_cons, List.not_mem_nil, false_implies, implies_true, and_true, true_and, and_self, Nat.reduceEqDiff, reduceIte, ↓reduceIte, ri_eq, Int.natCast_add, Int.cast_ofNat_Int, nlI_t (T := allI 0) rfl]; try simp) (by simp [nlH, allI]) (by simp [hp])) ?_
  rintro ⟨k, ob, nb⟩ ⟨hk, hob⟩
  simp only at hk hob
  have hrl := allI_length k
  have hsn := allI_snoc k
  have hl2 := allI_length (k + 1)
  have e2 : ∀ b, nlI b (allI (k + 1)) = .own b 0 (k + 1) (k + 1) 1 false := fun b => by rw [nlI_f (by omega), hl2]
  have e3 : ∀ b, nlH b (allI (k + 1)) = [(b, ⟨ints (allI (k + 1)), false⟩)] := fun b => nlH_f (by omega)
  refine SW_of_vc Try.mixed _ _ _ (by kernel_rfl) ?_
  by_cases hlt : k < n
  · by_cases hz : k = 0
    · have hkl : (allI k).length = 0 := by omega
      have e0 := nlI_t (b := ob) hkl
      have h0 := nlH_t (b := ob) hkl
      have hsn0 : [SV.val (.int .i64 (k : Int))] = ints (allI (k + 1)) := by rw [← hsn, List.length_eq_zero_iff.1 hkl]; rfl
      have e2z : ∀ b, nlI b (allI (k + 1)) = .own b 0 1 1 1 false := fun b => by
        have hk1 : k + 1 = 1 := by omega
        rw [e2, hk1]
      simp (disch := omega) only [Try.ntmps90, Try.results90, go_sem, Nat.reduceLT, Nat.reduceLeDiff, Nat.reduceEqDiff, Nat.reduceAdd, Nat.reduceSub, Nat.reduceMul, reduceIte, ↓reduceIte, reduceCtorEq, Int.reduceToNat, Int.reduceLE, Int.reduceLT, Int.reduceNeg, Int.reduceSub, Int.reduceAdd, Int.reduceMul, e0, h0]
      refine ⟨(k + 1, nb + 1, nb + 1 + 1), ⟨hlt, fun _ => by show nb + 1 < nb + 1 + 1; omega⟩, by show n - (k + 1) < n - k; omega, Wk.ofH (by simp only [go_sem, ↓List.forall_mem_cons, List.not_mem_nil, false_implies, implies_true, and_true, true_and, and_self, Nat.reduceEqDiff, reduceIte, ↓reduceIte, ri_eq, Int.natCast_add, Int.cast_ofNat_Int, e2z]; try simp) ?_ (Nat.le_refl _)⟩
      show ∀ q ∈ nlH (nb + 1) (allI (k + 1)), _
      refine nlH_in fun _ => ?_
      rw [← hsn0]; simp (disch := omega) only [hp_map, hmap_cons, if_pos, if_neg, ↓reduceIte]
    · have hkl : (allI k).length ≠ 0 := by omega
      have o2 := hob hz
      have e0 := nlI_f (b := ob) hkl
      have h0 := nlH_f (b := ob) hkl
      rw [hrl] at e0
      have hil : (ints (allI k)).length = k := by rw [ints_length, hrl]
      have hit : (ints (allI k)).take k = ints (allI k) := List.take_of_length_le (by omega)
      simp (disch := omega) only [Try.ntmps90, Try.results90, go_sem, Nat.reduceLT, Nat.reduceLeDiff, Nat.reduceEqDiff, Nat.reduceAdd, Nat.reduceSub, Nat.reduceMul, reduceIte, ↓reduceIte, reduceCtorEq, Int.reduceToNat, Int.reduceLE, Int.reduceLT, Int.reduceNeg, Int.reduceSub, Int.reduceAdd, Int.reduceMul, e0, h0, hil, hit, hsn]
      refine ⟨(k + 1, nb + 1, nb + 1 + 1), ⟨hlt, fun _ => by show nb + 1 < nb + 1 + 1; omega⟩, by show n - (k + 1) < n - k; omega, Wk.ofH (by simp only [go_sem, ↓List.forall_mem_cons, List.not_mem_nil, false_implies, implies_true, and_true, true_and, and_self, Nat.reduceEqDiff, reduceIte, ↓reduceIte, ri_eq, Int.natCast_add, Int.cast_ofNat_Int, e2]; try simp) ?_ (Nat.le_refl _)⟩
      show ∀ q ∈ nlH (nb + 1) (allI (k + 1)), _
      refine nlH_in fun _ => ?_
      simp (disch := omega) only [hp_map, hmap_cons, if_pos, if_neg, ↓reduceIte]
  · obtain rfl : k = n := by omega
    have hkl : (allI k).length ≠ 0 := by omega
    have e0 := nlI_f (b := ob) hkl
    rw [hrl] at e0
    have hm := nlH_map (b := ob) hkl
    simp (disch := omega) only [Try.ntmps90, Try.results90, go_sem, Nat.reduceLT, Nat.reduceLeDiff, Nat.reduceEqDiff, Nat.reduceAdd, Nat.reduceSub, Nat.reduceMul, reduceIte, ↓reduceIte, reduceCtorEq, Int.reduceToNat, Int.reduceLE, Int.reduceLT, Int.reduceNeg, Int.reduceSub, Int.reduceAdd, Int.reduceMul, e0]
    exact fin_ints hrl.symm (by rw [hp_map, hm])
theorem Try.allItems_one (n : Nat) (h1 : 1 ≤ n) (h8 : n ≤ 8) : FCall Try.prog 90 [.val (.int .i64 n)] (OneRes n 1 (ints (allI n))) := (Try.allItems_f n h1 h8).one
theorem Try.allItems_ok (n : Nat) (h1 : 1 ≤ n) (h8 : n ≤ 8) : PCall Try.prog 90 [.val (.int .i64 n)] (ri (allI n)) := (Try.allItems_one n h1 h8).pcall 2 (fun _ _ h => one_view h (allI_length n).symm)
end Go.Sh

/-
  The test of a step in a chain, and the least item that passes it: of the program.
-/
namespace Go.Sh
set_option linter.unusedSimpArgs false
set_option linter.unusedVariables false
open Go Go.Proofs

theorem mustM_row {n : Nat} {C : List Con} {x : Nat} (hx : x < n) : (mrow (mustM n C) x).length = n := (genM_sq n _).2 x hx
theorem mustM_at {n : Nat} {C : List Con} {x y : Nat} (hx : x < n) (hy : y < n) : mat (mustM n C) x y = bint (mustB C x y) := by rw [mustM, genM_at hx hy]

set_option maxHeartbeats 2000000 in
theorem Try.chainFn_ok (n : Nat) (C : List Con) (F : List Int) (k a : Nat) (hn : n ≤ 8) (hk : k < n) (ha : a < n) (hF : F.length = n) (hv : -1 ≤ F.getD a 0 ∧ F.getD a 0 ≤ 8) :
    PCall Try.prog 99 [.val (.int .i64 k), .rptr [rr (mustM n C)] 0, .rptr [.val (.int .i64 a)] 0, .rptr [ri F] 0] (.val (.bool (near C F a k))) := by
  refine FCall.pcall (R := fun r _ => r = .val (.bool (near C F a k))) ?_ 0 (by rintro r H rfl; exact view_bool)
  refine FCall.of_body Try.func99 rfl (by kernel_rfl) (by simp [Try.ntmps99]) ?_
  refine SW_of_vc Try.mixed _ _ _ (by kernel_rfl) ?_
  have hl := mustM_length n C
  have hr := mustM_row (C := C) ha
  have hm := mustM_at (C := C) ha hk
  have gm : (ints (mrow (mustM n C) a))[k]? = some (.val (.int .i64 (mat (mustM n C) a k))) := ints_get' hr hk
  have g1 : (ints F)[k]? = some (.val (.int .i64 (F.getD k 0))) := ints_get (by omega)
  have g2 : (ints F)[a]? = some (.val (.int .i64 (F.getD a 0))) := ints_get (by omega)
  have hil : (ints F).length = n := by rw [ints_length, hF]
  rw [hm] at gm
  rw [near]
  generalize F.getD k 0 = u at *
  generalize F.getD a 0 = v at *
  have b1 : bint true = 1 := by simp [bint]
  have b0 : bint false = 0 := by simp [bint]
  cases hmb : mustB C a k with
  | true =>
    rw [hmb, b1] at gm
    have gm1 := gm
    by_cases h : u = v - 1
    · simp (disch := omega) only [Try.ntmps99, Try.results99, go_sem, Nat.reduceLT, Nat.reduceLeDiff, Nat.reduceEqDiff, Nat.reduceAdd, Nat.reduceSub, Nat.reduceMul, reduceIte, ↓reduceIte, reduceCtorEq, Int.reduceToNat, Int.reduceLE, Int.reduceLT, Int.reduceNeg, Int.reduceSub, Int.reduceAdd, Int.reduceMul, rr_eq, rows_get, hl, hr, gm1, g1, g2, hil]
      exact Fin.val (by simp [h])
    · simp (disch := omega) only [Try.ntmps99, Try.results99, go_sem, Nat.reduceLT, Nat.reduceLeDiff, Nat.reduceEqDiff, Nat.reduceAdd, Nat.reduceSub, Nat.reduceMul, reduceIte, ↓reduceIte, reduceCtorEq, Int.reduceToNat, Int.reduceLE, Int.reduceLT, Int.reduceNeg, Int.reduceSub, Int.reduceAdd, Int.reduceMul, rr_eq, rows_get, hl, hr, gm1, g1, g2, hil]
      exact Fin.val (by simp [h])
  | false =>
    rw [hmb, b0] at gm
    have gm1 := gm
    simp (disch := omega) only [Try.ntmps99, Try.results99, go_sem, Nat.reduceLT, Nat.reduceLeDiff, Nat.reduceEqDiff, Nat.reduceAdd, Nat.reduceSub, Nat.reduceMul, reduceIte, ↓reduceIte, reduceCtorEq, Int.reduceToNat, Int.reduceLE, Int.reduceLT, Int.reduceNeg, Int.reduceSub, Int.reduceAdd, Int.reduceMul, rr_eq, rows_get, hl, hr, gm1, g1, g2, hil]
    exact Fin.val rfl

set_option maxHeartbeats 1000000 in
theorem Try.indexFuncI_ok (f : FuncId) (cap : List SV) (L : List Int) (pr : Nat → Bool) (m : Nat) (hL : L.length ≤ 1048576) (hcap : ∀ H fu, viewL H fu cap = some cap) (hm : m < L.length)
    (hf : ∀ k, k ≤ m → PCall Try.prog f (.val (.int .i64 (L.getD k 0)) :: cap) (.val (.bool (pr k)))) (h1 : ∀ i, i < m → pr i = false) (h2 : pr m = true) :
    PCall Try.prog 98 [ri L, .clos (.func f) [] cap] (.val (.int .i64 m)) := by
  refine FCall.pcall (R := fun x _ => x = .val (.int .i64 m)) ?_ 0 (by rintro r H rfl; exact view_int)
  refine FCall.of_body Try.func98 rfl (by kernel_rfl) (by simp [Try.ntmps98]) ?_
  refine SW_of_vc Try.mixed _ _ _ (by kernel_rfl) ?_
  simp (disch := omega) only [Try.ntmps98, Try.results98, go_sem, Nat.reduceLT, Nat.reduceLeDiff, Nat.reduceEqDiff, Nat.reduceAdd, Nat.reduceSub, Nat.reduceMul, reduceIte, ↓reduceIte, reduceCtorEq, Int.reduceToNat, Int.reduceLE, Int.reduceLT, Int.reduceNeg, Int.reduceSub, Int.reduceAdd, Int.reduceMul]
  refine LoopW.loop (fun k : Nat => ⟨ofL [(0, ri L), (1, .clos (.func f) [] cap), (7, .val (.int .i64 L.length)), (8, .val (.int .i64 k))], hp [] 0⟩) (fun k => k ≤ m) (fun k => L.length - k) 0 (by omega) (Wk.of (by simp only [go_sem, ↓List.forall_mem_cons, List.not_mem_nil, false_implies, implies_true, and_true, true_and, and_self, Nat.reduceEqDiff, reduceIte, ↓reduceIte, ri_eq, Int.natCast_add, Int.cast_ofNat_Int]; try simp) rfl) ?_
  intro k hk
  have hlt : k < L.length := by omega
  have gx : (ints L)[k]? = some (.val (.int .i64 (L.getD k 0))) := ints_get hlt
  have hil : (ints L).length = L.length := ints_length L
  have w := hf k hk
  refine SW_of_vc Try.mixed _ _ _ (by kernel_rfl) ?_
  by_cases he : k = m
  · subst he
    rw [h2] at w
    simp (disch := omega) only [Try.ntmps98, Try.results98, go_sem, Nat.reduceLT, Nat.reduceLeDiff, Nat.reduceEqDiff, Nat.reduceAdd, Nat.reduceSub, Nat.reduceMul, reduceIte, ↓reduceIte, reduceCtorEq, Int.reduceToNat, Int.reduceLE, Int.reduceLT, Int.reduceNeg, Int.reduceSub, Int.reduceAdd, Int.reduceMul, gx, hil]
    refine w.callV 1 (viewL_cons_of view_int (hcap _ _)) ?_
    simp (disch := omega) only [Try.ntmps98, Try.results98, go_sem, Nat.reduceLT, Nat.reduceLeDiff, Nat.reduceEqDiff, Nat.reduceAdd, Nat.reduceSub, Nat.reduceMul, reduceIte, ↓reduceIte, reduceCtorEq, Int.reduceToNat, Int.reduceLE, Int.reduceLT, Int.reduceNeg, Int.reduceSub, Int.reduceAdd, Int.reduceMul]
    exact Fin.val rfl
  · rw [h1 k (by omega)] at w
    simp (disch := omega) only [Try.ntmps98, Try.results98, go_sem, Nat.reduceLT, Nat.reduceLeDiff, Nat.reduceEqDiff, Nat.reduceAdd, Nat.reduceSub, Nat.reduceMul, reduceIte, ↓reduceIte, reduceCtorEq, Int.reduceToNat, Int.reduceLE, Int.reduceLT, Int.reduceNeg, Int.reduceSub, Int.reduceAdd, Int.reduceMul, gx, hil]
    refine w.callV 1 (viewL_cons_of view_int (hcap _ _)) ?_
    simp (disch := omega) only [Try.ntmps98, Try.results98, go_sem, Nat.reduceLT, Nat.reduceLeDiff, Nat.reduceEqDiff, Nat.reduceAdd, Nat.reduceSub, Nat.reduceMul, reduceIte, ↓reduceIte, reduceCtorEq, Int.reduceToNat, Int.reduceLE, Int.reduceLT, Int.reduceNeg, Int.reduceSub, Int.reduceAdd, Int.reduceMul]
    exact ⟨k + 1, by omega, by omega, Wk.of (by simp only [go_sem, ↓List.forall_mem_cons, List.not_mem_nil, false_implies, implies_true, and_true, true_and, and_self, Nat.reduceEqDiff, reduceIte, ↓reduceIte, ri_eq, Int.natCast_add, Int.cast_ofNat_Int]; try simp) rfl⟩
end Go.Sh

/-
  A chain of must-link constraints, of the program.
-/
namespace Go.Sh
set_option linter.unusedSimpArgs false
set_option linter.unusedVariables false
open Go Go.Proofs

def nlI8 (W : List Nat) : List Int := W.map fun x : Nat => (x : Int)

theorem nlI8_length (W : List Nat) : (nlI8 W).length = W.length := by simp [nlI8]
theorem nlI8_at {W : List Nat} {off q : Nat} {Q : List Nat} (h : W.drop off = q :: Q) : (ints (nlI8 W))[off]? = some (.val (.int .i64 (q : Int))) := by
  have : W[off]? = some q := by
    have := congrArg (·[0]?) h
    simpa using this
  simp [ints, nlI8, this]
theorem nlI8_view {W : List Nat} {off l : Nat} (h : off + l = W.length) : List.take l (List.drop off (ints (nlI8 W))) = ints (nlI8 (W.drop off)) := by
  rw [List.take_of_length_le (by simp [ints, nlI8]; omega)]
  simp [ints, nlI8]
theorem nlI8_snoc (W : List Nat) (k : Nat) : ints (nlI8 W) ++ [.val (.int .i64 (k : Int))] = ints (nlI8 (W ++ [k])) := by simp [ints, nlI8]
theorem xdel_skipQ {b x : Nat} {M : List (List Int)} {l : List Ent} (h : x < b ∨ b + M.length < x) : xdel (.mat b (mi M) :: l) x = .mat b (mi M) :: xdel l x := by
  rw [xdel, if_pos (by rw [mi_length]; exact h)]
theorem drop_one {W : List Nat} {off q : Nat} {Q : List Nat} (h : W.drop off = q :: Q) : W.drop (off + 1) = Q := by
  rw [← List.drop_drop, h]; rfl
def cH (n : Nat) (C : List Con) (F : List Int) (W : List Nat) (qb : Nat) : List Ent := [.blk qb ⟨ints (nlI8 W), false⟩, .blk (n + 1 + 1 + 1 + 1) ⟨[.own (n + 1 + 1 + 1) 0 n n 1 false], true⟩, .blk (n + 1 + 1 + 1) ⟨ints F, false⟩, .blk (n + 1) ⟨[.own 0 0 n n 1 false], true⟩, .mat 0 (mi (mustM n C))]

def dH (n : Nat) (C : List Con) (F : List Int) (a : Nat) (L : List Int) (ob ab : Nat) : List Ent := [.blk ab ⟨[.val (.int .i64 a)], true⟩, .blk ob ⟨ints L, false⟩, .blk (n + 1 + 1 + 1 + 1) ⟨[.own (n + 1 + 1 + 1) 0 n n 1 false], true⟩, .blk (n + 1 + 1 + 1) ⟨ints F, false⟩, .blk (n + 1) ⟨[.own 0 0 n n 1 false], true⟩, .mat 0 (mi (mustM n C))]

set_option maxRecDepth 20000 in
set_option maxHeartbeats 16000000 in
theorem Try.implChain_f (n : Nat) (C : List Con) (hC : areCons n C = true) (k x y : Nat) (hk : k < C.length) (hcf : conflict n C = (k : Int)) (hc : cg C k = ((x : Int), (y : Int), false)) (hxy : x < y) (hy : y < n) (hd : ∃ d, IsD C y x d) :
    FCall Try.prog 27 [.val (.int .i64 n), rc C] (FlatRes (chn n C (farL n C y) ((farL n C y).getD x 0).toNat x).length 1 (ints (chn n C (farL n C y) ((farL n C y).getD x 0).toNat x))) := by
  obtain ⟨⟨hn1, hn8⟩, hCl, hCc⟩ := areCons_t hC
  have wF := Try.implFind_ok n C (by omega)
  rw [hcf] at wF
  obtain ⟨q1, q2, q3, q4⟩ := cons_of hk hc
  have hlm := mustM_length n C
  have hadj := areCons_adj hC
  have hn1' : 1 ≤ n := by omega
  have hneg : negs n ((List.replicate n (-1)).set y 0) + 1 ≤ n := by
    have h1 : y < (List.replicate n (-1 : Int)).length := by simpa using hy
    have h2 := negs_set (v := 0) (k := y) (O := List.replicate n (-1)) (by omega) (by simp [hy]) h1 n hy
    have h3 : negs n (List.replicate n (-1)) ≤ n := by
      have := List.countP_le_length (p := fun x => decide ((List.replicate n (-1 : Int)).getD x 0 < 0)) (l := List.range n)
      simpa [negs] using this
    omega
  refine FCall.of_body Try.func27 rfl (by kernel_rfl) (by simp [Try.ntmps27]) ?_
  refine SW_of_vc Try.mixed _ _ _ (by kernel_rfl) ?_
  simp (disch := omega) only [Try.ntmps27, Try.results27, go_sem, Nat.reduceLT, Nat.reduceLeDiff, Nat.reduceEqDiff, Nat.reduceAdd, Nat.reduceSub, Nat.reduceMul, reduceIte, ↓reduceIte, reduceCtorEq, Int.reduceToNat, Int.reduceLE, Int.reduceLT, Int.reduceNeg, Int.reduceSub, Int.reduceAdd, Int.reduceMul, rc]
  refine wF.callV 0 (viewL_cons_of (view_int) (viewL_cons_of (view_row) viewL_nil_of)) ?_
  simp (disch := omega) only [Try.ntmps27, Try.results27, go_sem, Nat.reduceLT, Nat.reduceLeDiff, Nat.reduceEqDiff, Nat.reduceAdd, Nat.reduceSub, Nat.reduceMul, reduceIte, ↓reduceIte, reduceCtorEq, Int.reduceToNat, Int.reduceLE, Int.reduceLT, Int.reduceNeg, Int.reduceSub, Int.reduceAdd, Int.reduceMul, rc]
  refine (Try.mustMatrix_f n C hC).mat.callMat (mi_vals _) 0 (viewL_cons_of (view_int) (viewL_cons_of (view_row) viewL_nil_of)) ?_
  simp (disch := omega) only [Try.ntmps27, Try.results27, go_sem, Nat.reduceLT, Nat.reduceLeDiff, Nat.reduceEqDiff, Nat.reduceAdd, Nat.reduceSub, Nat.reduceMul, reduceIte, ↓reduceIte, reduceCtorEq, Int.reduceToNat, Int.reduceLE, Int.reduceLT, Int.reduceNeg, Int.reduceSub, Int.reduceAdd, Int.reduceMul, rc, hlm]
  refine (Try.repeat_one n (-1) (by omega) (by omega)).callOne (ints_vals _) 2 (viewL_cons_of (view_own (L := [-1]) (e2 := false) (by rw [hx_map, xmap_blk, if_pos rfl]; rfl) rfl) (viewL_cons_of (view_int) viewL_nil_of)) ?_
  have hil : (ints (List.replicate n (-1))).length = n := by simp [ints]
  have hset : (ints (List.replicate n (-1))).set y (.val (.int .i64 0)) = ints ((List.replicate n (-1)).set y 0) := by simp [ints]
  simp (disch := omega) only [Try.ntmps27, Try.results27, go_sem, Nat.reduceLT, Nat.reduceLeDiff, Nat.reduceEqDiff, Nat.reduceAdd, Nat.reduceSub, Nat.reduceMul, reduceIte, ↓reduceIte, reduceCtorEq, Int.reduceToNat, Int.reduceLE, Int.reduceLT, Int.reduceNeg, Int.reduceSub, Int.reduceAdd, Int.reduceMul, rc, hlm, q1, q2, q3, hil, hset]
  refine LoopW.loop (fun p : List Nat × Nat × Nat × List Int × Nat × Nat => ⟨ofL [(0, .val (.int .i64 n)), (1, rc C), (5, .val (.int .i64 k)), (6, .optr (n + 1) 0), (7, .optr (n + 1 + 1 + 1 + 1) 0), (8, .own p.2.2.2.2.1 p.2.1 p.2.2.1 p.2.2.1 1 false)], hx (cH n C p.2.2.2.1 p.1 p.2.2.2.2.1) p.2.2.2.2.2⟩)
    (fun p => p.2.1 + p.2.2.1 = p.1.length ∧ p.2.2.1 ≤ n ∧ n + 1 + 1 + 1 + 1 < p.2.2.2.2.1 ∧ p.2.2.2.2.1 < p.2.2.2.2.2 ∧ negs n p.2.2.2.1 + p.2.2.1 ≤ n ∧ ((p.1.drop p.2.1 = [] ∧ FarL n C y p.2.2.2.1) ∨ ∃ q Q, p.1.drop p.2.1 = q :: Q ∧ Bfs n C y q Q p.2.2.2.1)) (fun p => negs n p.2.2.2.1 + p.2.2.1) ([y], 0, 1, (List.replicate n (-1)).set y 0, n + 1 + 1 + 1 + 1 + 1, n + 1 + 1 + 1 + 1 + 1 + 1)
    ⟨by simp, hn1', by show n + 1 + 1 + 1 + 1 < n + 1 + 1 + 1 + 1 + 1; omega, by show n + 1 + 1 + 1 + 1 + 1 < n + 1 + 1 + 1 + 1 + 1 + 1; omega, hneg, .inr ⟨y, [], rfl, .start hy⟩⟩
    (Wk.ofX (by simp only [go_sem, ↓List.forall_mem_cons, List.not_mem_nil, false_implies, implies_true, and_true, true_and, and_self, Nat.reduceEqDiff, reduceIte, ↓reduceIte, ri_eq, Int.natCast_add, Int.cast_ofNat_Int, rc]; try simp) (by simp only [cH, List.forall_mem_cons]; exact ⟨by simp [EntIn, hx_map, xmap_blk, nlI8, ints], by simp [EntIn, hx_map, xmap_blk], by simp [EntIn, hx_map, xmap_blk], by simp [EntIn, hx_map, xmap_blk], by repeat (first | exact EntIn.self | refine EntIn.skipM ?_ (by simp only [mi_length]; omega)), by simp⟩) (Nat.le_refl _)) ?_
  clear hil hset wF
  rintro ⟨W, off, l, F, qb, nb⟩ ⟨hol, hln, hq1, hq2, hng, hI⟩
  simp only at hol hln hq1 hq2 hng hI
  refine SW_of_vc Try.mixed _ _ _ (by kernel_rfl) ?_
  rcases hI with ⟨hW, hF⟩ | ⟨q, Q, hW, hB⟩
  · have hl0 : l = 0 := by
      have := congrArg List.length hW
      simp at this; omega
    subst hl0
    rw [cH]
    simp (disch := omega) only [Try.ntmps27, Try.results27, go_sem, Nat.reduceLT, Nat.reduceLeDiff, Nat.reduceEqDiff, Nat.reduceAdd, Nat.reduceSub, Nat.reduceMul, reduceIte, ↓reduceIte, reduceCtorEq, Int.reduceToNat, Int.reduceLE, Int.reduceLT, Int.reduceNeg, Int.reduceSub, Int.reduceAdd, Int.reduceMul, rc, q1, q2, q3]
    have hfe := hF.eq
    obtain ⟨d, hd⟩ := hd
    have hxn : x < n := by omega
    have hFd : F.getD x 0 = (d : Int) := by
      rcases hF.2 x hxn with ⟨_, h2⟩ | ⟨e, h1, h2⟩
      · exact absurd hd.1 (h2 d)
      · rw [h1, isD_uniq h2 hd]
    rw [← hfe, hFd, Int.toNat_natCast]
    have hFl := hF.1
    have hil : (ints F).length = n := by rw [ints_length, hFl]
    have hdn := isD_lt hy hadj hd
    have wAll := Try.allItems_one n hn1' (by omega)
    refine LoopW.loop (fun p : Nat × Nat × List Int × Nat × Nat × Nat => ⟨ofL [(0, .val (.int .i64 n)), (1, rc C), (5, .val (.int .i64 k)), (6, .optr (n + 1) 0), (7, .optr (n + 1 + 1 + 1 + 1) 0), (11, .own p.2.2.2.1 0 p.2.2.1.length p.2.2.1.length 1 false), (12, .optr p.2.2.2.2.1 0)], hx (dH n C F p.1 p.2.2.1 p.2.2.2.1 p.2.2.2.2.1) p.2.2.2.2.2⟩)
      (fun p => p.1 < n ∧ F.getD p.1 0 = (p.2.1 : Int) ∧ p.2.1 < n ∧ p.2.2.1 ++ (chn n C F p.2.1 p.1).tail = chn n C F d x ∧ p.2.2.1.length ≤ n + 1 - p.2.1 ∧ n + 1 + 1 + 1 + 1 < p.2.2.2.1 ∧ p.2.2.2.1 < p.2.2.2.2.1 ∧ p.2.2.2.2.1 < p.2.2.2.2.2) (fun p => p.2.1) (x, d, [(x : Int)], nb, nb + 1, nb + 1 + 1)
      ⟨hxn, hFd, hdn, by cases d <;> rfl, by simp; omega, by show n + 1 + 1 + 1 + 1 < nb; omega, by show nb < nb + 1; omega, by show nb + 1 < nb + 1 + 1; omega⟩
      (Wk.ofX (by simp only [go_sem, ↓List.forall_mem_cons, List.not_mem_nil, false_implies, implies_true, and_true, true_and, and_self, Nat.reduceEqDiff, reduceIte, ↓reduceIte, ri_eq, Int.natCast_add, Int.cast_ofNat_Int, rc]; try simp) (by simp only [dH, List.forall_mem_cons]; exact ⟨(by simp (disch := omega) only [EntIn, hx_map, xmap_blk, xmap_skipI, if_pos, if_neg, ↓reduceIte, nlI8, ints, List.map_cons, List.map_nil]), (by simp (disch := omega) only [EntIn, hx_map, xmap_blk, xmap_skipI, if_pos, if_neg, ↓reduceIte, nlI8, ints, List.map_cons, List.map_nil]), (by simp (disch := omega) only [EntIn, hx_map, xmap_blk, xmap_skipI, if_pos, if_neg, ↓reduceIte, nlI8, ints, List.map_cons, List.map_nil]), (by simp (disch := omega) only [EntIn, hx_map, xmap_blk, xmap_skipI, if_pos, if_neg, ↓reduceIte, nlI8, ints, List.map_cons, List.map_nil]), (by simp (disch := omega) only [EntIn, hx_map, xmap_blk, xmap_skipI, if_pos, if_neg, ↓reduceIte, nlI8, ints, List.map_cons, List.map_nil]), (by repeat (first | exact EntIn.self | refine EntIn.skipM ?_ (by simp only [mi_length]; omega))), by simp⟩) (Nat.le_refl _)) ?_
    clear hFd hd hxn hdn
    rintro ⟨a, e, L, ob, ab, nb⟩ ⟨ha, hFe, hen, hL, hLl, ho1, ho2, ho3⟩
    simp only at ha hFe hen hL hLl ho1 ho2 ho3
    refine SW_of_vc Try.mixed _ _ _ (by kernel_rfl) ?_
    cases e with
    | zero =>
      have hay : a = y := by
        rcases hF.2 a ha with ⟨h1, _⟩ | ⟨e, h1, h2⟩
        · omega
        · obtain rfl : e = 0 := by omega
          exact isD_zero.1 h2
      subst hay
      rw [dH]
      simp (disch := omega) only [Try.ntmps27, Try.results27, go_sem, Nat.reduceLT, Nat.reduceLeDiff, Nat.reduceEqDiff, Nat.reduceAdd, Nat.reduceSub, Nat.reduceMul, reduceIte, ↓reduceIte, reduceCtorEq, Int.reduceToNat, Int.reduceLE, Int.reduceLT, Int.reduceNeg, Int.reduceSub, Int.reduceAdd, Int.reduceMul, rc, q1, q2, q3]
      rw [chn, List.tail_cons, List.append_nil] at hL
      rw [← hL]
      exact fin_ints rfl (by first | rfl | (simp (disch := omega) only [hx_map, hp_map, xmap_blk, hmap_cons, xmap_skipI, xmap_nil, if_pos, if_neg, ↓reduceIte]; try rfl))
    | succ e =>
      have hay : a ≠ y := by
        rintro rfl
        rcases hF.2 a ha with ⟨h1, _⟩ | ⟨e, h1, h2⟩
        · omega
        · have := isD_uniq h2 (isD_zero.2 rfl); omega
      have hk := hF.pkn hadj ha hFe
      have hp0 : pkn n C F a = fi n (near C F a) := rfl
      rw [hp0] at hk
      rw [chn, List.tail_cons, hp0] at hL
      have hmin := fun z (h : z < fi n (near C F a)) => fi_min h
      have hat := fi_at hk.1
      generalize fi n (near C F a) = B at *
      have hlA := allI_length n
      have hil2 : (ints L).length = L.length := ints_length L
      have hit : (ints L).take L.length = ints L := List.take_of_length_le (by omega)
      have hsn : ints L ++ [.val (.int .i64 (B : Int))] = ints (L ++ [(B : Int)]) := by simp [ints]
      have wI := Try.indexFuncI_ok 99 [.rptr [rr (mustM n C)] 0, .rptr [.val (.int .i64 a)] 0, .rptr [ri F] 0] (allI n) (near C F a) B (by omega)
        (fun _ _ => viewL_cons_of view_rptr (viewL_cons_of view_rptr (viewL_cons_of view_rptr viewL_nil_of))) (by omega)
        (fun z hz => by
          rw [allI_at (by omega)]
          exact Try.chainFn_ok n C F z a (by omega) (by omega) ha hFl (by omega)) hmin hat
      rw [dH]
      simp (disch := omega) only [Try.ntmps27, Try.results27, go_sem, Nat.reduceLT, Nat.reduceLeDiff, Nat.reduceEqDiff, Nat.reduceAdd, Nat.reduceSub, Nat.reduceMul, reduceIte, ↓reduceIte, reduceCtorEq, Int.reduceToNat, Int.reduceLE, Int.reduceLT, Int.reduceNeg, Int.reduceSub, Int.reduceAdd, Int.reduceMul, rc, q1, q2, q3]
      refine wAll.callOne (ints_vals _) 0 (viewL_cons_of (view_int) viewL_nil_of) ?_
      simp (disch := omega) only [Try.ntmps27, Try.results27, go_sem, Nat.reduceLT, Nat.reduceLeDiff, Nat.reduceEqDiff, Nat.reduceAdd, Nat.reduceSub, Nat.reduceMul, reduceIte, ↓reduceIte, reduceCtorEq, Int.reduceToNat, Int.reduceLE, Int.reduceLT, Int.reduceNeg, Int.reduceSub, Int.reduceAdd, Int.reduceMul, rc]
      refine wI.callV 5 (viewL_cons_of (view_own (L := allI n) (e2 := false) (by first | rfl | (simp (disch := omega) only [hx_map, hp_map, xmap_blk, hmap_cons, xmap_skipI, xmap_nil, if_pos, if_neg, ↓reduceIte]; try rfl)) hlA.symm) (viewL_cons_of (view_clos (viewL_cons_of (view_optr (e := true) (cs := [.own 0 0 n n 1 false]) (by first | rfl | (simp (disch := omega) only [hx_map, hp_map, xmap_blk, hmap_cons, xmap_skipI, xmap_nil, if_pos, if_neg, ↓reduceIte]; try rfl)) (viewL_cons_of (view_mi (by repeat (first | exact EntIn.self | refine EntIn.skipM ?_ (by simp only [mi_length]; omega))) hlm.symm) viewL_nil_of))
        (viewL_cons_of (view_optr (e := true) (cs := [.val (.int .i64 a)]) (by first | rfl | (simp (disch := omega) only [hx_map, hp_map, xmap_blk, hmap_cons, xmap_skipI, xmap_nil, if_pos, if_neg, ↓reduceIte]; try rfl)) (viewL_cons_of view_int viewL_nil_of)) (viewL_cons_of (view_optr (e := true) (cs := [.own (n + 1 + 1 + 1) 0 n n 1 false]) (by first | rfl | (simp (disch := omega) only [hx_map, hp_map, xmap_blk, hmap_cons, xmap_skipI, xmap_nil, if_pos, if_neg, ↓reduceIte]; try rfl)) (viewL_cons_of (view_own (L := F) (e2 := false) (by first | rfl | (simp (disch := omega) only [hx_map, hp_map, xmap_blk, hmap_cons, xmap_skipI, xmap_nil, if_pos, if_neg, ↓reduceIte]; try rfl)) hFl.symm) viewL_nil_of)) viewL_nil_of)))) viewL_nil_of)) ?_
      simp (disch := omega) only [Try.ntmps27, Try.results27, go_sem, Nat.reduceLT, Nat.reduceLeDiff, Nat.reduceEqDiff, Nat.reduceAdd, Nat.reduceSub, Nat.reduceMul, reduceIte, ↓reduceIte, reduceCtorEq, Int.reduceToNat, Int.reduceLE, Int.reduceLT, Int.reduceNeg, Int.reduceSub, Int.reduceAdd, Int.reduceMul, rc, hil2, hit, hsn, xdel_skipQ, xdel_nil]
      have hl3 : (L ++ [(B : Int)]).length = L.length + 1 := by simp
      refine ⟨(B, e, L ++ [(B : Int)], nb + 1 + 1, nb + 1 + 1 + 1, nb + 1 + 1 + 1 + 1), ⟨hk.1, hk.2.1, by show e < n; omega, ?_, by show (L ++ [(B : Int)]).length ≤ n + 1 - e; omega, by show n + 1 + 1 + 1 + 1 < nb + 1 + 1; omega, by show nb + 1 + 1 < nb + 1 + 1 + 1; omega, by show nb + 1 + 1 + 1 < nb + 1 + 1 + 1 + 1; omega⟩, by show e < e + 1; omega, Wk.ofX (by simp only [go_sem, ↓List.forall_mem_cons, List.not_mem_nil, false_implies, implies_true, and_true, true_and, and_self, Nat.reduceEqDiff, reduceIte, ↓reduceIte, ri_eq, Int.natCast_add, Int.cast_ofNat_Int, rc, hl3]; try simp) (by simp only [dH, List.forall_mem_cons]; exact ⟨(by simp (disch := omega) only [EntIn, hx_map, xmap_blk, xmap_skipI, if_pos, if_neg, ↓reduceIte, nlI8, ints, List.map_cons, List.map_nil]), (by simp (disch := omega) only [EntIn, hx_map, xmap_blk, xmap_skipI, if_pos, if_neg, ↓reduceIte, nlI8, ints, List.map_cons, List.map_nil]), (by simp (disch := omega) only [EntIn, hx_map, xmap_blk, xmap_skipI, if_pos, if_neg, ↓reduceIte, nlI8, ints, List.map_cons, List.map_nil]), (by simp (disch := omega) only [EntIn, hx_map, xmap_blk, xmap_skipI, if_pos, if_neg, ↓reduceIte, nlI8, ints, List.map_cons, List.map_nil]), (by simp (disch := omega) only [EntIn, hx_map, xmap_blk, xmap_skipI, if_pos, if_neg, ↓reduceIte, nlI8, ints, List.map_cons, List.map_nil]), (by repeat (first | exact EntIn.self | refine EntIn.skipM ?_ (by simp only [mi_length]; omega))), by simp⟩) (Nat.le_refl _)⟩
      show L ++ [(B : Int)] ++ (chn n C F e B).tail = _
      rw [← hL]
      cases e <;> simp [chn]
  · have hl1 : 0 < l := by
      have := congrArg List.length hW
      simp at this; omega
    have gq := nlI8_at hW
    have hqn := hB.qn
    have hrow := mustM_row (C := C) hqn
    have hiw : (ints (nlI8 W)).length = W.length := by rw [ints_length, nlI8_length]
    rw [cH]
    simp (disch := omega) only [Try.ntmps27, Try.results27, go_sem, Nat.reduceLT, Nat.reduceLeDiff, Nat.reduceEqDiff, Nat.reduceAdd, Nat.reduceSub, Nat.reduceMul, reduceIte, ↓reduceIte, reduceCtorEq, Int.reduceToNat, Int.reduceLE, Int.reduceLT, Int.reduceNeg, Int.reduceSub, Int.reduceAdd, Int.reduceMul, rc, hlm, outerB_getI, xmap_skipI, xmap_rowI, gq, hiw, hrow]
    have hjj : ∀ j, j < n → (ints (mrow (mustM n C) q))[j]? = some (.val (.int .i64 (bint (mustB C q j)))) := fun j hj => by
      rw [← mustM_at hqn hj]; exact ints_get' hrow hj
    have hofs : W.drop off = q :: W.drop (off + 1) := by rw [drop_one hW, hW]
    rw [← drop_one hW] at hB
    refine LoopW.loop (fun p : Nat × List Nat × Nat × Nat × List Int × Nat × Nat => ⟨ofL [(0, .val (.int .i64 n)), (1, rc C), (5, .val (.int .i64 k)), (6, .optr (n + 1) 0), (7, .optr (n + 1 + 1 + 1 + 1) 0), (8, .own p.2.2.2.2.2.1 p.2.2.1 p.2.2.2.1 p.2.2.2.1 1 false), (47, .own (1 + q) 0 n n 1 false), (48, .val (.int .i64 n)), (49, .val (.int .i64 p.1))], hx (cH n C p.2.2.2.2.1 p.2.1 p.2.2.2.2.2.1) p.2.2.2.2.2.2⟩)
      (fun p => p.1 ≤ n ∧ p.2.2.1 + p.2.2.2.1 = p.2.1.length ∧ 0 < p.2.2.2.1 ∧ n + 1 + 1 + 1 + 1 < p.2.2.2.2.2.1 ∧ p.2.2.2.2.2.1 < p.2.2.2.2.2.2 ∧ negs n p.2.2.2.2.1 + p.2.2.2.1 = negs n F + l ∧ p.2.1.drop p.2.2.1 = q :: p.2.1.drop (p.2.2.1 + 1) ∧ Bfs n C y q (p.2.1.drop (p.2.2.1 + 1)) p.2.2.2.2.1 ∧ ∀ z, z < p.1 → mustB C q z = true → 0 ≤ p.2.2.2.2.1.getD z 0) (fun p => n - p.1) (0, W, off, l, F, qb, nb)
      ⟨by simp, hol, hl1, hq1, hq2, rfl, hofs, hB, fun z hz => absurd hz (by simp)⟩
      (Wk.ofX (by simp only [go_sem, ↓List.forall_mem_cons, List.not_mem_nil, false_implies, implies_true, and_true, true_and, and_self, Nat.reduceEqDiff, reduceIte, ↓reduceIte, ri_eq, Int.natCast_add, Int.cast_ofNat_Int, rc]; try simp) (by simp only [cH, List.forall_mem_cons]; exact ⟨(by simp (disch := omega) only [EntIn, hx_map, xmap_blk, xmap_skipI, if_pos, if_neg, ↓reduceIte, nlI8, ints, List.map_cons, List.map_nil]), (by simp (disch := omega) only [EntIn, hx_map, xmap_blk, xmap_skipI, if_pos, if_neg, ↓reduceIte, nlI8, ints, List.map_cons, List.map_nil]), (by simp (disch := omega) only [EntIn, hx_map, xmap_blk, xmap_skipI, if_pos, if_neg, ↓reduceIte, nlI8, ints, List.map_cons, List.map_nil]), (by simp (disch := omega) only [EntIn, hx_map, xmap_blk, xmap_skipI, if_pos, if_neg, ↓reduceIte, nlI8, ints, List.map_cons, List.map_nil]), (by repeat (first | exact EntIn.self | refine EntIn.skipM ?_ (by simp only [mi_length]; omega))), by simp⟩) (Nat.le_refl _)) ?_
    generalize hN : negs n F + l = N at *
    clear hB hofs hW hiw gq hol hl1 hq1 hq2 hln hN
    clear W off l F qb nb Q
    rintro ⟨j, W, off, l, F, qb, nb⟩ ⟨hj, hol, hl1, hq1, hq2, hN, hW, hB, hz⟩
    simp only at hj hol hl1 hq1 hq2 hN hW hB hz
    have gq := nlI8_at hW
    have hiw : (ints (nlI8 W)).length = W.length := by rw [ints_length, nlI8_length]
    have hFl := hB.len
    have hilF : (ints F).length = n := by rw [ints_length, hFl]
    refine SW_of_vc Try.mixed _ _ _ (by kernel_rfl) ?_
    by_cases hlt : j < n
    · have gj := hjj j hlt
      have gF : (ints F)[j]? = some (.val (.int .i64 (F.getD j 0))) := ints_get (by omega)
      have gFq : (ints F)[q]? = some (.val (.int .i64 (F.getD q 0))) := ints_get (by omega)
      have b1 : bint true = 1 := by simp [bint]
      have b0 : bint false = 0 := by simp [bint]
      cases hmb : mustB C q j with
      | false =>
        rw [hmb, b0] at gj
        rw [cH]
        simp (disch := omega) only [Try.ntmps27, Try.results27, go_sem, Nat.reduceLT, Nat.reduceLeDiff, Nat.reduceEqDiff, Nat.reduceAdd, Nat.reduceSub, Nat.reduceMul, reduceIte, ↓reduceIte, reduceCtorEq, Int.reduceToNat, Int.reduceLE, Int.reduceLT, Int.reduceNeg, Int.reduceSub, Int.reduceAdd, Int.reduceMul, rc, hlm, xmap_skipI, xmap_rowI, gj, hrow, hilF]
        exact ⟨(j + 1, W, off, l, F, qb, nb), ⟨hlt, hol, hl1, hq1, hq2, hN, hW, hB, fun z hz2 hz3 => by
          by_cases e : z = j
          · subst e; rw [hmb] at hz3; cases hz3
          · exact hz z (by omega) hz3⟩, by show n - (j + 1) < n - j; omega, Wk.ofX (by simp only [go_sem, ↓List.forall_mem_cons, List.not_mem_nil, false_implies, implies_true, and_true, true_and, and_self, Nat.reduceEqDiff, reduceIte, ↓reduceIte, ri_eq, Int.natCast_add, Int.cast_ofNat_Int, rc]; try simp) (by simp only [cH, List.forall_mem_cons]; exact ⟨(by simp (disch := omega) only [EntIn, hx_map, xmap_blk, xmap_skipI, if_pos, if_neg, ↓reduceIte, nlI8, ints, List.map_cons, List.map_nil]), (by simp (disch := omega) only [EntIn, hx_map, xmap_blk, xmap_skipI, if_pos, if_neg, ↓reduceIte, nlI8, ints, List.map_cons, List.map_nil]), (by simp (disch := omega) only [EntIn, hx_map, xmap_blk, xmap_skipI, if_pos, if_neg, ↓reduceIte, nlI8, ints, List.map_cons, List.map_nil]), (by simp (disch := omega) only [EntIn, hx_map, xmap_blk, xmap_skipI, if_pos, if_neg, ↓reduceIte, nlI8, ints, List.map_cons, List.map_nil]), (by repeat (first | exact EntIn.self | refine EntIn.skipM ?_ (by simp only [mi_length]; omega))), by simp⟩) (Nat.le_refl _)⟩
      | true =>
        rw [hmb, b1] at gj
        by_cases hneg : F.getD j 0 < 0
        · obtain ⟨dq, hdq, hDq⟩ : ∃ d : Nat, F.getD q 0 = (d : Int) ∧ IsD C y q d := (hB.val q hB.qn).resolve_left (by have := hB.q0; omega)
          have hdn := isD_lt hy hadj hDq
          have hput := hB.put hlt hneg (adjC_mustB.2 hmb)
          have hns := negs_set (v := F.getD q 0 + 1) (by omega) hneg (by omega) n hlt
          have hit := nlI8_view hol
          have hsn := nlI8_snoc (W.drop off) j
          have hst : (ints F).set j (.val (.int .i64 (F.getD q 0 + 1))) = ints (F.set j (F.getD q 0 + 1)) := by simp [ints]
          have hlW := ints_length (nlI8 W)
          have hW2 : (W.drop off ++ [j]).drop 1 = W.drop (off + 1) ++ [j] := by rw [hW]; rfl
          have hl2 : (W.drop off ++ [j]).length = l + 1 := by simp; omega
          rw [hdq] at gFq hst hput hns
          rw [cH]
          simp (disch := omega) only [Try.ntmps27, Try.results27, go_sem, Nat.reduceLT, Nat.reduceLeDiff, Nat.reduceEqDiff, Nat.reduceAdd, Nat.reduceSub, Nat.reduceMul, reduceIte, ↓reduceIte, reduceCtorEq, Int.reduceToNat, Int.reduceLE, Int.reduceLT, Int.reduceNeg, Int.reduceSub, Int.reduceAdd, Int.reduceMul, rc, hlm, xmap_skipI, xmap_rowI, gj, hrow, hilF, gF, gFq, gq, hiw, hst, hit, hsn, xset_skipI, xdel_blk, xdel_skipQ]
          refine ⟨(j + 1, W.drop off ++ [j], 0, l + 1, F.set j ((dq : Int) + 1), nb + 1, nb + 1 + 1), ⟨hlt, by show 0 + (l + 1) = (W.drop off ++ [j]).length; omega, by show 0 < l + 1; omega, by show n + 1 + 1 + 1 + 1 < nb + 1; omega, by show nb + 1 < nb + 1 + 1; omega, by show negs n (F.set j ((dq : Int) + 1)) + (l + 1) = N; omega, ?_, ?_, fun z hz2 hz3 => ?_⟩, by show n - (j + 1) < n - j; omega, Wk.ofX (by simp only [go_sem, ↓List.forall_mem_cons, List.not_mem_nil, false_implies, implies_true, and_true, true_and, and_self, Nat.reduceEqDiff, reduceIte, ↓reduceIte, ri_eq, Int.natCast_add, Int.cast_ofNat_Int, rc]; try simp) (by simp only [cH, List.forall_mem_cons]; exact ⟨(by simp (disch := omega) only [EntIn, hx_map, xmap_blk, xmap_skipI, if_pos, if_neg, ↓reduceIte, nlI8, ints, List.map_cons, List.map_nil]), (by simp (disch := omega) only [EntIn, hx_map, xmap_blk, xmap_skipI, if_pos, if_neg, ↓reduceIte, nlI8, ints, List.map_cons, List.map_nil]), (by simp (disch := omega) only [EntIn, hx_map, xmap_blk, xmap_skipI, if_pos, if_neg, ↓reduceIte, nlI8, ints, List.map_cons, List.map_nil]), (by simp (disch := omega) only [EntIn, hx_map, xmap_blk, xmap_skipI, if_pos, if_neg, ↓reduceIte, nlI8, ints, List.map_cons, List.map_nil]), (by repeat (first | exact EntIn.self | refine EntIn.skipM ?_ (by simp only [mi_length]; omega))), by simp⟩) (Nat.le_refl _)⟩
          · show (W.drop off ++ [j]).drop 0 = q :: (W.drop off ++ [j]).drop (0 + 1)
            rw [Nat.zero_add, hW2, List.drop_zero, hW]; rfl
          · show Bfs n C y q ((W.drop off ++ [j]).drop (0 + 1)) (F.set j ((dq : Int) + 1))
            rw [Nat.zero_add, hW2]; exact hput
          · show 0 ≤ (F.set j ((dq : Int) + 1)).getD z 0
            by_cases e : z = j
            · subst e; rw [fset_at (by omega)]; omega
            · rw [fset_ne e]; exact hz z (by have : z < j + 1 := hz2; omega) hz3
        · rw [cH]
          simp (disch := omega) only [Try.ntmps27, Try.results27, go_sem, Nat.reduceLT, Nat.reduceLeDiff, Nat.reduceEqDiff, Nat.reduceAdd, Nat.reduceSub, Nat.reduceMul, reduceIte, ↓reduceIte, reduceCtorEq, Int.reduceToNat, Int.reduceLE, Int.reduceLT, Int.reduceNeg, Int.reduceSub, Int.reduceAdd, Int.reduceMul, rc, hlm, xmap_skipI, xmap_rowI, gj, hrow, hilF, gF]
          exact ⟨(j + 1, W, off, l, F, qb, nb), ⟨hlt, hol, hl1, hq1, hq2, hN, hW, hB, fun z hz2 hz3 => by
            show 0 ≤ F.getD z 0
            by_cases e : z = j
            · subst e; omega
            · exact hz z (by omega) hz3⟩, by show n - (j + 1) < n - j; omega, Wk.ofX (by simp only [go_sem, ↓List.forall_mem_cons, List.not_mem_nil, false_implies, implies_true, and_true, true_and, and_self, Nat.reduceEqDiff, reduceIte, ↓reduceIte, ri_eq, Int.natCast_add, Int.cast_ofNat_Int, rc]; try simp) (by simp only [cH, List.forall_mem_cons]; exact ⟨(by simp (disch := omega) only [EntIn, hx_map, xmap_blk, xmap_skipI, if_pos, if_neg, ↓reduceIte, nlI8, ints, List.map_cons, List.map_nil]), (by simp (disch := omega) only [EntIn, hx_map, xmap_blk, xmap_skipI, if_pos, if_neg, ↓reduceIte, nlI8, ints, List.map_cons, List.map_nil]), (by simp (disch := omega) only [EntIn, hx_map, xmap_blk, xmap_skipI, if_pos, if_neg, ↓reduceIte, nlI8, ints, List.map_cons, List.map_nil]), (by simp (disch := omega) only [EntIn, hx_map, xmap_blk, xmap_skipI, if_pos, if_neg, ↓reduceIte, nlI8, ints, List.map_cons, List.map_nil]), (by repeat (first | exact EntIn.self | refine EntIn.skipM ?_ (by simp only [mi_length]; omega))), by simp⟩) (Nat.le_refl _)⟩
    · obtain rfl : j = n := by omega
      rw [cH]
      simp (disch := omega) only [Try.ntmps27, Try.results27, go_sem, Nat.reduceLT, Nat.reduceLeDiff, Nat.reduceEqDiff, Nat.reduceAdd, Nat.reduceSub, Nat.reduceMul, reduceIte, ↓reduceIte, reduceCtorEq, Int.reduceToNat, Int.reduceLE, Int.reduceLT, Int.reduceNeg, Int.reduceSub, Int.reduceAdd, Int.reduceMul, rc, hlm]
      have hqs : ∀ z, adjC C q z → 0 ≤ F.getD z 0 := fun z h => hz z (hadj q z h) (adjC_mustB.1 h)
      refine ⟨(W, off + 1, l - 1, F, qb, nb), ⟨by show off + 1 + (l - 1) = W.length; omega, by show l - 1 ≤ j; omega, hq1, hq2, by show negs j F + (l - 1) ≤ j; omega, ?_⟩, by show negs j F + (l - 1) < N; omega, Wk.ofX (by simp only [go_sem, ↓List.forall_mem_cons, List.not_mem_nil, false_implies, implies_true, and_true, true_and, and_self, Nat.reduceEqDiff, reduceIte, ↓reduceIte, ri_eq, Int.natCast_add, Int.cast_ofNat_Int, rc, Bool.or_self]; try simp) (by simp only [cH, List.forall_mem_cons]; exact ⟨(by simp (disch := omega) only [EntIn, hx_map, xmap_blk, xmap_skipI, if_pos, if_neg, ↓reduceIte, nlI8, ints, List.map_cons, List.map_nil]), (by simp (disch := omega) only [EntIn, hx_map, xmap_blk, xmap_skipI, if_pos, if_neg, ↓reduceIte, nlI8, ints, List.map_cons, List.map_nil]), (by simp (disch := omega) only [EntIn, hx_map, xmap_blk, xmap_skipI, if_pos, if_neg, ↓reduceIte, nlI8, ints, List.map_cons, List.map_nil]), (by simp (disch := omega) only [EntIn, hx_map, xmap_blk, xmap_skipI, if_pos, if_neg, ↓reduceIte, nlI8, ints, List.map_cons, List.map_nil]), (by repeat (first | exact EntIn.self | refine EntIn.skipM ?_ (by simp only [mi_length]; omega))), by simp⟩) (Nat.le_refl _)⟩
      show (W.drop (off + 1) = [] ∧ FarL j C y F) ∨ ∃ q Q, W.drop (off + 1) = q :: Q ∧ Bfs j C y q Q F
      cases hQ : W.drop (off + 1) with
      | nil => exact .inl ⟨rfl, (hQ ▸ hB).done hadj hqs hy⟩
      | cons q' Q => exact .inr ⟨q', Q, rfl, (hQ ▸ hB).pop hadj hqs⟩
end Go.Sh

/-
  A chain of must-link constraints, of the reference.
-/
namespace Go.Sh
set_option linter.unusedSimpArgs false
set_option linter.unusedVariables false
open Go Go.Proofs

theorem fill_snoc (k : Nat) : ints (List.replicate k (-1)) ++ [.val (.int .i64 (-1))] = ints (List.replicate (k + 1) (-1)) := by
  rw [List.replicate_succ']; simp [ints]
theorem FarTo.zero {n b : Nat} {C : List Con} (hb : b < n) : FarTo n C b 0 ((List.replicate n (-1)).set b 0) := by
  refine ⟨by simp, fun x hx => ?_⟩
  by_cases e : x = b
  · subst e
    exact .inr ⟨0, Nat.le_refl _, by simp [List.getElem?_set, hx], isD_zero.2 rfl⟩
  · exact .inl ⟨by simp [List.getElem?_set, Ne.symm e, hx], fun h => e h⟩

theorem fi_nil {n : Nat} {F : List Int} {a : Nat} : fi n (near [] F a) = n := fi_none fun y _ => near_nil F a y
set_option maxRecDepth 20000 in
set_option maxHeartbeats 8000000 in
theorem Try.l18Chain_f (n a b : Nat) (C : List Con) (hC : areCons n C = true) (ha : a < n) (hb : b < n) (hd : ∃ d, IsD C b a d) : FCall Try.prog 94 [.val (.int .i64 n), rc C, .val (.int .i64 a), .val (.int .i64 b)] (FlatRes (chn n C (farL n C b) ((farL n C b).getD a 0).toNat a).length 1 (ints (chn n C (farL n C b) ((farL n C b).getD a 0).toNat a))) := by
  obtain ⟨⟨hn1, hn8⟩, hCl, hCc⟩ := areCons_t hC
  refine FCall.of_body Try.func94 rfl (by kernel_rfl) (by simp [Try.ntmps94]) ?_
  refine SW_of_vc Try.mixed _ _ _ (by kernel_rfl) ?_
  simp (disch := omega) only [Try.ntmps94, Try.results94, go_sem, Nat.reduceLT, Nat.reduceLeDiff, Nat.reduceEqDiff, Nat.reduceAdd, Nat.reduceSub, Nat.reduceMul, reduceIte, ↓reduceIte, reduceCtorEq, Int.reduceToNat, Int.reduceLE, Int.reduceLT, Int.reduceNeg, Int.reduceSub, Int.reduceAdd, Int.reduceMul, rc, rep_none]
  refine LoopW.loop (fun p : Nat × Nat × Nat => ⟨ofL [(0, .val (.int .i64 n)), (1, rc C), (2, .val (.int .i64 a)), (3, .val (.int .i64 b)), (9, .own p.2.1 0 p.1 p.1 1 false), (10, .val (.int .i64 p.1))], hp [(p.2.1, ⟨ints (List.replicate p.1 (-1)), false⟩)] p.2.2⟩)
    (fun p => p.1 ≤ n ∧ p.2.1 < p.2.2) (fun p => n - p.1) (0, 0, 1) ⟨by simp, by simp⟩ (Wk.ofH (by simp only [go_sem, ↓List.forall_mem_cons, List.not_mem_nil, false_implies, implies_true, and_true, true_and, and_self, Nat.reduceEqDiff, reduceIte, ↓reduceIte, ri_eq, Int.natCast_add, Int.cast_ofNat_Int, rc]; try simp) (by simp [hp, hmap, rep, ints]) (by simp [hp])) ?_
  rintro ⟨k, ob, nb⟩ ⟨hk, hob⟩
  simp only at hk hob
  refine SW_of_vc Try.mixed _ _ _ (by kernel_rfl) ?_
  by_cases hlt : k < n
  · have hil : (ints (List.replicate k (-1))).length = k := by simp [ints]
    have hit : (ints (List.replicate k (-1))).take k = ints (List.replicate k (-1)) := List.take_of_length_le (by omega)
    have hsn := fill_snoc k
    simp (disch := omega) only [Try.ntmps94, Try.results94, go_sem, Nat.reduceLT, Nat.reduceLeDiff, Nat.reduceEqDiff, Nat.reduceAdd, Nat.reduceSub, Nat.reduceMul, reduceIte, ↓reduceIte, reduceCtorEq, Int.reduceToNat, Int.reduceLE, Int.reduceLT, Int.reduceNeg, Int.reduceSub, Int.reduceAdd, Int.reduceMul, rc, hil, hit, hsn]
    exact ⟨(k + 1, nb + 1, nb + 1 + 1), ⟨hlt, by show nb + 1 < nb + 1 + 1; omega⟩, by show n - (k + 1) < n - k; omega, Wk.ofH (by simp only [go_sem, ↓List.forall_mem_cons, List.not_mem_nil, false_implies, implies_true, and_true, true_and, and_self, Nat.reduceEqDiff, reduceIte, ↓reduceIte, ri_eq, Int.natCast_add, Int.cast_ofNat_Int, rc]; try simp) (by simp (disch := omega) only [go_sem, ↓List.forall_mem_cons, List.not_mem_nil, false_implies, implies_true, and_true, true_and, and_self, Nat.reduceEqDiff, reduceIte, ↓reduceIte, ri_eq, Int.natCast_add, Int.cast_ofNat_Int, if_pos, if_neg, Nat.reduceAdd, List.nil_append]; try simp) (Nat.le_refl _)⟩
  · obtain rfl : k = n := by omega
    have hil : (ints (List.replicate k (-1))).length = k := by simp [ints]
    have hset : (ints (List.replicate k (-1))).set b (.val (.int .i64 0)) = ints ((List.replicate k (-1)).set b 0) := by simp [ints]
    have hz := FarTo.zero (C := C) hb
    simp (disch := omega) only [Try.ntmps94, Try.results94, go_sem, Nat.reduceLT, Nat.reduceLeDiff, Nat.reduceEqDiff, Nat.reduceAdd, Nat.reduceSub, Nat.reduceMul, reduceIte, ↓reduceIte, reduceCtorEq, Int.reduceToNat, Int.reduceLE, Int.reduceLT, Int.reduceNeg, Int.reduceSub, Int.reduceAdd, Int.reduceMul, rc, hil, hset]
    clear hil hset hlt
    refine LoopW.loop (fun p : Nat × List Int => ⟨ofL [(0, .val (.int .i64 k)), (1, rc C), (2, .val (.int .i64 a)), (3, .val (.int .i64 b)), (9, .own ob 0 k k 1 false), (11, .val (.int .i64 ((p.1 : Int) + 1)))], hp [(ob, ⟨ints p.2, false⟩)] nb⟩)
      (fun p => p.1 ≤ k ∧ FarTo k C b p.1 p.2) (fun p => k - p.1) (0, (List.replicate k (-1)).set b 0) ⟨by simp, hz⟩ (Wk.ofH (by simp only [go_sem, ↓List.forall_mem_cons, List.not_mem_nil, false_implies, implies_true, and_true, true_and, and_self, Nat.reduceEqDiff, reduceIte, ↓reduceIte, ri_eq, Int.natCast_add, Int.cast_ofNat_Int, rc]; try simp) (by simp (disch := omega) only [go_sem, ↓List.forall_mem_cons, List.not_mem_nil, false_implies, implies_true, and_true, true_and, and_self, Nat.reduceEqDiff, reduceIte, ↓reduceIte, ri_eq, Int.natCast_add, Int.cast_ofNat_Int, if_pos, if_neg, Nat.reduceAdd, List.nil_append]; try simp) (Nat.le_refl _)) ?_
    clear hz
    rintro ⟨t, F⟩ ⟨ht, hF⟩
    simp only at ht hF
    refine SW_of_vc Try.mixed _ _ _ (by kernel_rfl) ?_
    by_cases hlt : t < k
    · simp (disch := omega) only [Try.ntmps94, Try.results94, go_sem, Nat.reduceLT, Nat.reduceLeDiff, Nat.reduceEqDiff, Nat.reduceAdd, Nat.reduceSub, Nat.reduceMul, reduceIte, ↓reduceIte, reduceCtorEq, Int.reduceToNat, Int.reduceLE, Int.reduceLT, Int.reduceNeg, Int.reduceSub, Int.reduceAdd, Int.reduceMul, rc]
      refine LoopW.loop (fun p : Nat × List Int => ⟨ofL [(0, .val (.int .i64 k)), (1, rc C), (2, .val (.int .i64 a)), (3, .val (.int .i64 b)), (9, .own ob 0 k k 1 false), (11, .val (.int .i64 ((t : Int) + 1))), (12, .val (.int .i64 p.1))], hp [(ob, ⟨ints p.2, false⟩)] nb⟩)
        (fun p => p.1 ≤ C.length ∧ FarIn k C b t (C.take p.1) p.2) (fun p => C.length - p.1) (0, F) ⟨by simp, by rw [List.take_zero]; exact hF.start⟩ (Wk.ofH (by simp only [go_sem, ↓List.forall_mem_cons, List.not_mem_nil, false_implies, implies_true, and_true, true_and, and_self, Nat.reduceEqDiff, reduceIte, ↓reduceIte, ri_eq, Int.natCast_add, Int.cast_ofNat_Int, rc]; try simp) (by simp (disch := omega) only [go_sem, ↓List.forall_mem_cons, List.not_mem_nil, false_implies, implies_true, and_true, true_and, and_self, Nat.reduceEqDiff, reduceIte, ↓reduceIte, ri_eq, Int.natCast_add, Int.cast_ofNat_Int, if_pos, if_neg, Nat.reduceAdd, List.nil_append]; try simp) (Nat.le_refl _)) ?_
      clear hF
      rintro ⟨i, F⟩ ⟨hi, hF⟩
      simp only at hi hF
      refine SW_of_vc Try.mixed _ _ _ (by kernel_rfl) ?_
      by_cases hlt2 : i < C.length
      · obtain ⟨xa, ya, s, hc⟩ := con_ex C i
        have hm : (xa, ya, s) ∈ C := by rw [← hc]; exact cg_mem hlt2
        obtain ⟨x1, x2, x3⟩ := hCc _ hm
        simp only at x1 x2 x3
        obtain ⟨x, rfl⟩ := Int.eq_ofNat_of_zero_le x1
        obtain ⟨y, rfl⟩ := Int.eq_ofNat_of_zero_le (by omega : 0 ≤ ya)
        have hx : x < k := by omega
        have hy : y < k := by omega
        obtain ⟨q1, q2, q3, _⟩ := cons_of hlt2 hc
        have hnext := hF.step hm hx hy
        have htk : C.take (i + 1) = C.take i ++ [((x : Int), (y : Int), s)] := by
          rw [List.take_succ_eq_append_getElem hlt2, ← hc]; simp [cg, hlt2]
        have hfs : fstep t F ((x : Int), (y : Int), s) = Go.Sh.fput t (Go.Sh.fput t F x y s) y x s := rfl
        rw [hfs, ← htk] at hnext
        have hFl := hF.1
        have gx : (ints F)[x]? = some (.val (.int .i64 (F.getD x 0))) := ints_get (by omega)
        have gy : (ints F)[y]? = some (.val (.int .i64 (F.getD y 0))) := ints_get (by omega)
        have hil : (ints F).length = k := by rw [ints_length, hFl]
        have px : (F.set x ((t : Int) + 1)).getD x 0 = (t : Int) + 1 := by simp [List.getElem?_set, hFl, hx]
        have py : (F.set y ((t : Int) + 1)).getD y 0 = (t : Int) + 1 := by simp [List.getElem?_set, hFl, hy]
        have g2 : (ints (F.set y ((t : Int) + 1)))[y]? = some (.val (.int .i64 ((t : Int) + 1))) := by rw [ints_get (by rw [List.length_set]; omega), py]
        clear hF hc hm htk hfs hCc
        cases s with
        | false =>
          have e : Go.Sh.fput t (Go.Sh.fput t F x y false) y x false = F := by rw [Go.Sh.fput, Go.Sh.fput, if_neg (by simp), if_neg (by simp)]
          rw [e] at hnext
          simp (disch := omega) only [Try.ntmps94, Try.results94, go_sem, Nat.reduceLT, Nat.reduceLeDiff, Nat.reduceEqDiff, Nat.reduceAdd, Nat.reduceSub, Nat.reduceMul, reduceIte, ↓reduceIte, reduceCtorEq, Int.reduceToNat, Int.reduceLE, Int.reduceLT, Int.reduceNeg, Int.reduceSub, Int.reduceAdd, Int.reduceMul, rc, q1, q2, q3, gx, gy]
          exact ⟨(i + 1, F), ⟨hlt2, hnext⟩, by show C.length - (i + 1) < C.length - i; omega, Wk.ofH (by simp only [go_sem, ↓List.forall_mem_cons, List.not_mem_nil, false_implies, implies_true, and_true, true_and, and_self, Nat.reduceEqDiff, reduceIte, ↓reduceIte, ri_eq, Int.natCast_add, Int.cast_ofNat_Int, rc]; try simp) (by simp (disch := omega) only [go_sem, ↓List.forall_mem_cons, List.not_mem_nil, false_implies, implies_true, and_true, true_and, and_self, Nat.reduceEqDiff, reduceIte, ↓reduceIte, ri_eq, Int.natCast_add, Int.cast_ofNat_Int, if_pos, if_neg, Nat.reduceAdd, List.nil_append]; try simp) (Nat.le_refl _)⟩
        | true =>
          by_cases c1 : F.getD x 0 = (t : Int)
          · by_cases c2 : F.getD y 0 < 0
            · have e1 : Go.Sh.fput t F x y true = F.set y ((t : Int) + 1) := if_pos ⟨rfl, c1, c2⟩
              have e : Go.Sh.fput t (Go.Sh.fput t F x y true) y x true = F.set y ((t : Int) + 1) := by rw [e1]; exact if_neg (fun h => by have := h.2.1; omega)
              rw [e] at hnext
              simp (disch := omega) only [Try.ntmps94, Try.results94, go_sem, Nat.reduceLT, Nat.reduceLeDiff, Nat.reduceEqDiff, Nat.reduceAdd, Nat.reduceSub, Nat.reduceMul, reduceIte, ↓reduceIte, reduceCtorEq, Int.reduceToNat, Int.reduceLE, Int.reduceLT, Int.reduceNeg, Int.reduceSub, Int.reduceAdd, Int.reduceMul, rc, q1, q2, q3, gx, gy, ints_set, g2, c1]
              exact ⟨(i + 1, F.set y ((t : Int) + 1)), ⟨hlt2, hnext⟩, by show C.length - (i + 1) < C.length - i; omega, Wk.ofH (by simp only [go_sem, ↓List.forall_mem_cons, List.not_mem_nil, false_implies, implies_true, and_true, true_and, and_self, Nat.reduceEqDiff, reduceIte, ↓reduceIte, ri_eq, Int.natCast_add, Int.cast_ofNat_Int, rc]; try simp) (by simp (disch := omega) only [go_sem, ↓List.forall_mem_cons, List.not_mem_nil, false_implies, implies_true, and_true, true_and, and_self, Nat.reduceEqDiff, reduceIte, ↓reduceIte, ri_eq, Int.natCast_add, Int.cast_ofNat_Int, if_pos, if_neg, Nat.reduceAdd, List.nil_append]; try simp) (Nat.le_refl _)⟩
            · have e1 : Go.Sh.fput t F x y true = F := if_neg (fun h => c2 h.2.2)
              by_cases c3 : F.getD y 0 = (t : Int)
              · skip
                have e : Go.Sh.fput t (Go.Sh.fput t F x y true) y x true = F := by rw [e1]; exact if_neg (fun h => by have := h.2.2; omega)
                rw [e] at hnext
                simp (disch := omega) only [Try.ntmps94, Try.results94, go_sem, Nat.reduceLT, Nat.reduceLeDiff, Nat.reduceEqDiff, Nat.reduceAdd, Nat.reduceSub, Nat.reduceMul, reduceIte, ↓reduceIte, reduceCtorEq, Int.reduceToNat, Int.reduceLE, Int.reduceLT, Int.reduceNeg, Int.reduceSub, Int.reduceAdd, Int.reduceMul, rc, q1, q2, q3, gx, gy, c1, c3]
                exact ⟨(i + 1, F), ⟨hlt2, hnext⟩, by show C.length - (i + 1) < C.length - i; omega, Wk.ofH (by simp only [go_sem, ↓List.forall_mem_cons, List.not_mem_nil, false_implies, implies_true, and_true, true_and, and_self, Nat.reduceEqDiff, reduceIte, ↓reduceIte, ri_eq, Int.natCast_add, Int.cast_ofNat_Int, rc]; try simp) (by simp (disch := omega) only [go_sem, ↓List.forall_mem_cons, List.not_mem_nil, false_implies, implies_true, and_true, true_and, and_self, Nat.reduceEqDiff, reduceIte, ↓reduceIte, ri_eq, Int.natCast_add, Int.cast_ofNat_Int, if_pos, if_neg, Nat.reduceAdd, List.nil_append]; try simp) (Nat.le_refl _)⟩
              · skip
                have e : Go.Sh.fput t (Go.Sh.fput t F x y true) y x true = F := by rw [e1]; exact if_neg (fun h => c3 h.2.1)
                rw [e] at hnext
                simp (disch := omega) only [Try.ntmps94, Try.results94, go_sem, Nat.reduceLT, Nat.reduceLeDiff, Nat.reduceEqDiff, Nat.reduceAdd, Nat.reduceSub, Nat.reduceMul, reduceIte, ↓reduceIte, reduceCtorEq, Int.reduceToNat, Int.reduceLE, Int.reduceLT, Int.reduceNeg, Int.reduceSub, Int.reduceAdd, Int.reduceMul, rc, q1, q2, q3, gx, gy, c1]
                exact ⟨(i + 1, F), ⟨hlt2, hnext⟩, by show C.length - (i + 1) < C.length - i; omega, Wk.ofH (by simp only [go_sem, ↓List.forall_mem_cons, List.not_mem_nil, false_implies, implies_true, and_true, true_and, and_self, Nat.reduceEqDiff, reduceIte, ↓reduceIte, ri_eq, Int.natCast_add, Int.cast_ofNat_Int, rc]; try simp) (by simp (disch := omega) only [go_sem, ↓List.forall_mem_cons, List.not_mem_nil, false_implies, implies_true, and_true, true_and, and_self, Nat.reduceEqDiff, reduceIte, ↓reduceIte, ri_eq, Int.natCast_add, Int.cast_ofNat_Int, if_pos, if_neg, Nat.reduceAdd, List.nil_append]; try simp) (Nat.le_refl _)⟩
          · have e1 : Go.Sh.fput t F x y true = F := if_neg (fun h => c1 h.2.1)
            by_cases c3 : F.getD y 0 = (t : Int)
            · by_cases c4 : F.getD x 0 < 0
              · skip
                have e : Go.Sh.fput t (Go.Sh.fput t F x y true) y x true = F.set x ((t : Int) + 1) := by rw [e1]; exact if_pos ⟨rfl, c3, c4⟩
                rw [e] at hnext
                simp (disch := omega) only [Try.ntmps94, Try.results94, go_sem, Nat.reduceLT, Nat.reduceLeDiff, Nat.reduceEqDiff, Nat.reduceAdd, Nat.reduceSub, Nat.reduceMul, reduceIte, ↓reduceIte, reduceCtorEq, Int.reduceToNat, Int.reduceLE, Int.reduceLT, Int.reduceNeg, Int.reduceSub, Int.reduceAdd, Int.reduceMul, rc, q1, q2, q3, gx, gy, ints_set, c3]
                exact ⟨(i + 1, F.set x ((t : Int) + 1)), ⟨hlt2, hnext⟩, by show C.length - (i + 1) < C.length - i; omega, Wk.ofH (by simp only [go_sem, ↓List.forall_mem_cons, List.not_mem_nil, false_implies, implies_true, and_true, true_and, and_self, Nat.reduceEqDiff, reduceIte, ↓reduceIte, ri_eq, Int.natCast_add, Int.cast_ofNat_Int, rc]; try simp) (by simp (disch := omega) only [go_sem, ↓List.forall_mem_cons, List.not_mem_nil, false_implies, implies_true, and_true, true_and, and_self, Nat.reduceEqDiff, reduceIte, ↓reduceIte, ri_eq, Int.natCast_add, Int.cast_ofNat_Int, if_pos, if_neg, Nat.reduceAdd, List.nil_append]; try simp) (Nat.le_refl _)⟩
              · skip
                have e : Go.Sh.fput t (Go.Sh.fput t F x y true) y x true = F := by rw [e1]; exact if_neg (fun h => c4 h.2.2)
                rw [e] at hnext
                simp (disch := omega) only [Try.ntmps94, Try.results94, go_sem, Nat.reduceLT, Nat.reduceLeDiff, Nat.reduceEqDiff, Nat.reduceAdd, Nat.reduceSub, Nat.reduceMul, reduceIte, ↓reduceIte, reduceCtorEq, Int.reduceToNat, Int.reduceLE, Int.reduceLT, Int.reduceNeg, Int.reduceSub, Int.reduceAdd, Int.reduceMul, rc, q1, q2, q3, gx, gy, c3]
                exact ⟨(i + 1, F), ⟨hlt2, hnext⟩, by show C.length - (i + 1) < C.length - i; omega, Wk.ofH (by simp only [go_sem, ↓List.forall_mem_cons, List.not_mem_nil, false_implies, implies_true, and_true, true_and, and_self, Nat.reduceEqDiff, reduceIte, ↓reduceIte, ri_eq, Int.natCast_add, Int.cast_ofNat_Int, rc]; try simp) (by simp (disch := omega) only [go_sem, ↓List.forall_mem_cons, List.not_mem_nil, false_implies, implies_true, and_true, true_and, and_self, Nat.reduceEqDiff, reduceIte, ↓reduceIte, ri_eq, Int.natCast_add, Int.cast_ofNat_Int, if_pos, if_neg, Nat.reduceAdd, List.nil_append]; try simp) (Nat.le_refl _)⟩
            · skip
              have e : Go.Sh.fput t (Go.Sh.fput t F x y true) y x true = F := by rw [e1]; exact if_neg (fun h => c3 h.2.1)
              rw [e] at hnext
              simp (disch := omega) only [Try.ntmps94, Try.results94, go_sem, Nat.reduceLT, Nat.reduceLeDiff, Nat.reduceEqDiff, Nat.reduceAdd, Nat.reduceSub, Nat.reduceMul, reduceIte, ↓reduceIte, reduceCtorEq, Int.reduceToNat, Int.reduceLE, Int.reduceLT, Int.reduceNeg, Int.reduceSub, Int.reduceAdd, Int.reduceMul, rc, q1, q2, q3, gx, gy]
              exact ⟨(i + 1, F), ⟨hlt2, hnext⟩, by show C.length - (i + 1) < C.length - i; omega, Wk.ofH (by simp only [go_sem, ↓List.forall_mem_cons, List.not_mem_nil, false_implies, implies_true, and_true, true_and, and_self, Nat.reduceEqDiff, reduceIte, ↓reduceIte, ri_eq, Int.natCast_add, Int.cast_ofNat_Int, rc]; try simp) (by simp (disch := omega) only [go_sem, ↓List.forall_mem_cons, List.not_mem_nil, false_implies, implies_true, and_true, true_and, and_self, Nat.reduceEqDiff, reduceIte, ↓reduceIte, ri_eq, Int.natCast_add, Int.cast_ofNat_Int, if_pos, if_neg, Nat.reduceAdd, List.nil_append]; try simp) (Nat.le_refl _)⟩
      · obtain rfl : i = C.length := by omega
        rw [List.take_length] at hF
        have hF := hF.stop
        simp (disch := omega) only [Try.ntmps94, Try.results94, go_sem, Nat.reduceLT, Nat.reduceLeDiff, Nat.reduceEqDiff, Nat.reduceAdd, Nat.reduceSub, Nat.reduceMul, reduceIte, ↓reduceIte, reduceCtorEq, Int.reduceToNat, Int.reduceLE, Int.reduceLT, Int.reduceNeg, Int.reduceSub, Int.reduceAdd, Int.reduceMul, rc]
        exact ⟨(t + 1, F), ⟨hlt, hF⟩, by show k - (t + 1) < k - t; omega, Wk.ofH (by simp only [go_sem, ↓List.forall_mem_cons, List.not_mem_nil, false_implies, implies_true, and_true, true_and, and_self, Nat.reduceEqDiff, reduceIte, ↓reduceIte, ri_eq, Int.natCast_add, Int.cast_ofNat_Int, rc]; try simp) (by simp (disch := omega) only [go_sem, ↓List.forall_mem_cons, List.not_mem_nil, false_implies, implies_true, and_true, true_and, and_self, Nat.reduceEqDiff, reduceIte, ↓reduceIte, ri_eq, Int.natCast_add, Int.cast_ofNat_Int, if_pos, if_neg, Nat.reduceAdd, List.nil_append]; try simp) (Nat.le_refl _)⟩
    · obtain rfl : t = k := by omega
      have hfar := hF.farL hb (areCons_adj hC)
      obtain ⟨d, hd⟩ := hd
      have hFd : F.getD a 0 = (d : Int) := by
        rcases hfar.2 a ha with ⟨_, h2⟩ | ⟨e, h1, h2⟩
        · exact absurd hd.1 (h2 d)
        · rw [h1, isD_uniq h2 hd]
      rw [← hfar.eq, hFd, Int.toNat_natCast]
      have hFl := hF.1
      have hil : (ints F).length = t := by rw [ints_length, hFl]
      have hdn := isD_lt hb (areCons_adj hC) hd
      simp (disch := omega) only [Try.ntmps94, Try.results94, go_sem, Nat.reduceLT, Nat.reduceLeDiff, Nat.reduceEqDiff, Nat.reduceAdd, Nat.reduceSub, Nat.reduceMul, reduceIte, ↓reduceIte, reduceCtorEq, Int.reduceToNat, Int.reduceLE, Int.reduceLT, Int.reduceNeg, Int.reduceSub, Int.reduceAdd, Int.reduceMul, rc]
      refine LoopW.loop (fun p : Nat × Nat × List Int × Nat × Nat => ⟨ofL [(0, .val (.int .i64 t)), (1, rc C), (2, .val (.int .i64 p.1)), (9, .own ob 0 t t 1 false), (15, .own p.2.2.2.1 0 p.2.2.1.length p.2.2.1.length 1 false)], hp [(p.2.2.2.1, ⟨ints p.2.2.1, false⟩), (ob, ⟨ints F, false⟩)] p.2.2.2.2⟩)
        (fun p => p.1 < t ∧ F.getD p.1 0 = (p.2.1 : Int) ∧ p.2.1 < t ∧ p.2.2.1 ++ (chn t C F p.2.1 p.1).tail = chn t C F d a ∧ p.2.2.1.length ≤ t + 1 - p.2.1 ∧ ob < p.2.2.2.1 ∧ p.2.2.2.1 < p.2.2.2.2) (fun p => p.2.1) (a, d, [(a : Int)], nb, nb + 1) ⟨ha, hFd, hdn, by cases d <;> rfl, by simp; omega, by show ob < nb; omega, by show nb < nb + 1; omega⟩ (Wk.ofH (by simp only [go_sem, ↓List.forall_mem_cons, List.not_mem_nil, false_implies, implies_true, and_true, true_and, and_self, Nat.reduceEqDiff, reduceIte, ↓reduceIte, ri_eq, Int.natCast_add, Int.cast_ofNat_Int, rc]; try simp) (by simp [hp, hmap, ints]; intro h; omega) (by simp [hp])) ?_
      clear hFd hd ha hdn
      rintro ⟨a, e, L, q, nb⟩ ⟨ha, hFe, hen, hL, hLl, hq1, hq2⟩
      simp only at ha hFe hen hL hLl hq1 hq2
      have ga : (ints F)[a]? = some (.val (.int .i64 e)) := by rw [ints_get (by omega), hFe]
      refine SW_of_vc Try.mixed _ _ _ (by kernel_rfl) ?_
      cases e with
      | zero =>
        simp (disch := omega) only [Try.ntmps94, Try.results94, go_sem, Nat.reduceLT, Nat.reduceLeDiff, Nat.reduceEqDiff, Nat.reduceAdd, Nat.reduceSub, Nat.reduceMul, reduceIte, ↓reduceIte, reduceCtorEq, Int.reduceToNat, Int.reduceLE, Int.reduceLT, Int.reduceNeg, Int.reduceSub, Int.reduceAdd, Int.reduceMul, rc, hil, ga]
        rw [chn, List.tail_cons, List.append_nil] at hL
        rw [← hL]
        exact fin_ints rfl (by rw [hp_map, hmap_cons, if_pos rfl])
      | succ e =>
        have hk := hfar.pkn (areCons_adj hC) ha hFe
        have hp0 : pkn t C F a = fi t (near C F a) := rfl
        rw [hp0] at hk
        simp (disch := omega) only [Try.ntmps94, Try.results94, go_sem, Nat.reduceLT, Nat.reduceLeDiff, Nat.reduceEqDiff, Nat.reduceAdd, Nat.reduceSub, Nat.reduceMul, reduceIte, ↓reduceIte, reduceCtorEq, Int.reduceToNat, Int.reduceLE, Int.reduceLT, Int.reduceNeg, Int.reduceSub, Int.reduceAdd, Int.reduceMul, rc, hil, ga]
        refine LoopW.loop (fun p : Nat => ⟨ofL [(0, .val (.int .i64 t)), (1, rc C), (2, .val (.int .i64 a)), (9, .own ob 0 t t 1 false), (15, .own q 0 L.length L.length 1 false), (16, .val (.int .i64 (fi t (near (C.take p) F a)))), (17, .val (.int .i64 p))], hp [(q, ⟨ints L, false⟩), (ob, ⟨ints F, false⟩)] nb⟩)
          (fun p => p ≤ C.length) (fun p => C.length - p) 0 (by omega) (Wk.ofH (by simp only [go_sem, ↓List.forall_mem_cons, List.not_mem_nil, false_implies, implies_true, and_true, true_and, and_self, Nat.reduceEqDiff, reduceIte, ↓reduceIte, ri_eq, Int.natCast_add, Int.cast_ofNat_Int, rc, fi_nil]; try simp) (by simp (disch := omega) only [go_sem, ↓List.forall_mem_cons, List.not_mem_nil, false_implies, implies_true, and_true, true_and, and_self, Nat.reduceEqDiff, reduceIte, ↓reduceIte, ri_eq, Int.natCast_add, Int.cast_ofNat_Int, if_pos, if_neg, Nat.reduceAdd, List.nil_append]; try simp) (Nat.le_refl _)) ?_
        rintro i hi
        refine SW_of_vc Try.mixed _ _ _ (by kernel_rfl) ?_
        by_cases hlt2 : i < C.length
        · obtain ⟨xa, ya, s, hc⟩ := con_ex C i
          have hm : (xa, ya, s) ∈ C := by rw [← hc]; exact cg_mem hlt2
          obtain ⟨x1, x2, x3⟩ := hCc _ hm
          simp only at x1 x2 x3
          obtain ⟨x, rfl⟩ := Int.eq_ofNat_of_zero_le x1
          obtain ⟨y, rfl⟩ := Int.eq_ofNat_of_zero_le (by omega : 0 ≤ ya)
          have hx : x < t := by omega
          have hy : y < t := by omega
          obtain ⟨q1, q2, q3, _⟩ := cons_of hlt2 hc
          have hns := near_step (F := F) (a := a) hlt2 hc hx hy
          have hle := fi_le t (near (C.take i) F a)
          simp only at hns
          have gx : (ints F)[x]? = some (.val (.int .i64 (F.getD x 0))) := ints_get (by omega)
          have gy : (ints F)[y]? = some (.val (.int .i64 (F.getD y 0))) := ints_get (by omega)
          generalize fi t (near (C.take i) F a) = B at *
          generalize hB2 : fi t (near (C.take (i + 1)) F a) = B2 at *
          have hmx : min B x ≤ t := by omega
          have hmy : min B y ≤ t := by omega
          clear hm hCc
          cases s with
          | false =>
            rw [if_neg (by simp), if_neg (by simp)] at hns
            subst hns
            simp (disch := omega) only [Try.ntmps94, Try.results94, go_sem, Nat.reduceLT, Nat.reduceLeDiff, Nat.reduceEqDiff, Nat.reduceAdd, Nat.reduceSub, Nat.reduceMul, reduceIte, ↓reduceIte, reduceCtorEq, Int.reduceToNat, Int.reduceLE, Int.reduceLT, Int.reduceNeg, Int.reduceSub, Int.reduceAdd, Int.reduceMul, rc, q1, q2, q3, hil]
            exact ⟨i + 1, hlt2, by omega, Wk.ofH (by simp only [go_sem, ↓List.forall_mem_cons, List.not_mem_nil, false_implies, implies_true, and_true, true_and, and_self, Nat.reduceEqDiff, reduceIte, ↓reduceIte, ri_eq, Int.natCast_add, Int.cast_ofNat_Int, rc, hB2]; try simp) (by simp (disch := omega) only [go_sem, ↓List.forall_mem_cons, List.not_mem_nil, false_implies, implies_true, and_true, true_and, and_self, Nat.reduceEqDiff, reduceIte, ↓reduceIte, ri_eq, Int.natCast_add, Int.cast_ofNat_Int, if_pos, if_neg, Nat.reduceAdd, List.nil_append]; try simp) (Nat.le_refl _)⟩
          | true =>
            by_cases c1 : x = a
            · subst c1
              by_cases c2 : F.getD y 0 = (e : Int)
              · rw [if_neg (by omega), if_pos ⟨rfl, rfl, by omega⟩] at hns
                have hmin : (if (y : Int) < (B : Int) then (y : Int) else (B : Int)) = ((min B y : Nat) : Int) := by split <;> omega
                subst hns
                simp (disch := omega) only [Try.ntmps94, Try.results94, go_sem, Nat.reduceLT, Nat.reduceLeDiff, Nat.reduceEqDiff, Nat.reduceAdd, Nat.reduceSub, Nat.reduceMul, reduceIte, ↓reduceIte, reduceCtorEq, Int.reduceToNat, Int.reduceLE, Int.reduceLT, Int.reduceNeg, Int.reduceSub, Int.reduceAdd, Int.reduceMul, rc, q1, q2, q3, hil, ga, gy, c2]
                exact ⟨i + 1, hlt2, by omega, Wk.ofH (by simp only [go_sem, ↓List.forall_mem_cons, List.not_mem_nil, false_implies, implies_true, and_true, true_and, and_self, Nat.reduceEqDiff, reduceIte, ↓reduceIte, ri_eq, Int.natCast_add, Int.cast_ofNat_Int, rc, hB2, hmin]; try simp) (by simp (disch := omega) only [go_sem, ↓List.forall_mem_cons, List.not_mem_nil, false_implies, implies_true, and_true, true_and, and_self, Nat.reduceEqDiff, reduceIte, ↓reduceIte, ri_eq, Int.natCast_add, Int.cast_ofNat_Int, if_pos, if_neg, Nat.reduceAdd, List.nil_append]; try simp) (Nat.le_refl _)⟩
              · rw [if_neg (by omega), if_neg (by omega)] at hns
                subst hns
                simp (disch := omega) only [Try.ntmps94, Try.results94, go_sem, Nat.reduceLT, Nat.reduceLeDiff, Nat.reduceEqDiff, Nat.reduceAdd, Nat.reduceSub, Nat.reduceMul, reduceIte, ↓reduceIte, reduceCtorEq, Int.reduceToNat, Int.reduceLE, Int.reduceLT, Int.reduceNeg, Int.reduceSub, Int.reduceAdd, Int.reduceMul, rc, q1, q2, q3, hil, ga, gy]
                exact ⟨i + 1, hlt2, by omega, Wk.ofH (by simp only [go_sem, ↓List.forall_mem_cons, List.not_mem_nil, false_implies, implies_true, and_true, true_and, and_self, Nat.reduceEqDiff, reduceIte, ↓reduceIte, ri_eq, Int.natCast_add, Int.cast_ofNat_Int, rc, hB2]; try simp) (by simp (disch := omega) only [go_sem, ↓List.forall_mem_cons, List.not_mem_nil, false_implies, implies_true, and_true, true_and, and_self, Nat.reduceEqDiff, reduceIte, ↓reduceIte, ri_eq, Int.natCast_add, Int.cast_ofNat_Int, if_pos, if_neg, Nat.reduceAdd, List.nil_append]; try simp) (Nat.le_refl _)⟩
            · by_cases c3 : y = a
              · subst c3
                by_cases c2 : F.getD x 0 = (e : Int)
                · rw [if_pos ⟨rfl, rfl, by omega⟩, if_neg (by omega)] at hns
                  have hmin : (if (x : Int) < (B : Int) then (x : Int) else (B : Int)) = ((min B x : Nat) : Int) := by split <;> omega
                  subst hns
                  simp (disch := omega) only [Try.ntmps94, Try.results94, go_sem, Nat.reduceLT, Nat.reduceLeDiff, Nat.reduceEqDiff, Nat.reduceAdd, Nat.reduceSub, Nat.reduceMul, reduceIte, ↓reduceIte, reduceCtorEq, Int.reduceToNat, Int.reduceLE, Int.reduceLT, Int.reduceNeg, Int.reduceSub, Int.reduceAdd, Int.reduceMul, rc, q1, q2, q3, hil, ga, gx, c2]
                  exact ⟨i + 1, hlt2, by omega, Wk.ofH (by simp only [go_sem, ↓List.forall_mem_cons, List.not_mem_nil, false_implies, implies_true, and_true, true_and, and_self, Nat.reduceEqDiff, reduceIte, ↓reduceIte, ri_eq, Int.natCast_add, Int.cast_ofNat_Int, rc, hB2, hmin]; try simp) (by simp (disch := omega) only [go_sem, ↓List.forall_mem_cons, List.not_mem_nil, false_implies, implies_true, and_true, true_and, and_self, Nat.reduceEqDiff, reduceIte, ↓reduceIte, ri_eq, Int.natCast_add, Int.cast_ofNat_Int, if_pos, if_neg, Nat.reduceAdd, List.nil_append]; try simp) (Nat.le_refl _)⟩
                · rw [if_neg (by omega), if_neg (by omega)] at hns
                  subst hns
                  simp (disch := omega) only [Try.ntmps94, Try.results94, go_sem, Nat.reduceLT, Nat.reduceLeDiff, Nat.reduceEqDiff, Nat.reduceAdd, Nat.reduceSub, Nat.reduceMul, reduceIte, ↓reduceIte, reduceCtorEq, Int.reduceToNat, Int.reduceLE, Int.reduceLT, Int.reduceNeg, Int.reduceSub, Int.reduceAdd, Int.reduceMul, rc, q1, q2, q3, hil, ga, gx]
                  exact ⟨i + 1, hlt2, by omega, Wk.ofH (by simp only [go_sem, ↓List.forall_mem_cons, List.not_mem_nil, false_implies, implies_true, and_true, true_and, and_self, Nat.reduceEqDiff, reduceIte, ↓reduceIte, ri_eq, Int.natCast_add, Int.cast_ofNat_Int, rc, hB2]; try simp) (by simp (disch := omega) only [go_sem, ↓List.forall_mem_cons, List.not_mem_nil, false_implies, implies_true, and_true, true_and, and_self, Nat.reduceEqDiff, reduceIte, ↓reduceIte, ri_eq, Int.natCast_add, Int.cast_ofNat_Int, if_pos, if_neg, Nat.reduceAdd, List.nil_append]; try simp) (Nat.le_refl _)⟩
              · rw [if_neg (by omega), if_neg (by omega)] at hns
                subst hns
                simp (disch := omega) only [Try.ntmps94, Try.results94, go_sem, Nat.reduceLT, Nat.reduceLeDiff, Nat.reduceEqDiff, Nat.reduceAdd, Nat.reduceSub, Nat.reduceMul, reduceIte, ↓reduceIte, reduceCtorEq, Int.reduceToNat, Int.reduceLE, Int.reduceLT, Int.reduceNeg, Int.reduceSub, Int.reduceAdd, Int.reduceMul, rc, q1, q2, q3, hil]
                exact ⟨i + 1, hlt2, by omega, Wk.ofH (by simp only [go_sem, ↓List.forall_mem_cons, List.not_mem_nil, false_implies, implies_true, and_true, true_and, and_self, Nat.reduceEqDiff, reduceIte, ↓reduceIte, ri_eq, Int.natCast_add, Int.cast_ofNat_Int, rc, hB2]; try simp) (by simp (disch := omega) only [go_sem, ↓List.forall_mem_cons, List.not_mem_nil, false_implies, implies_true, and_true, true_and, and_self, Nat.reduceEqDiff, reduceIte, ↓reduceIte, ri_eq, Int.natCast_add, Int.cast_ofNat_Int, if_pos, if_neg, Nat.reduceAdd, List.nil_append]; try simp) (Nat.le_refl _)⟩
        · obtain rfl : i = C.length := by omega
          rw [List.take_length]
          rw [chn, List.tail_cons, hp0] at hL
          generalize fi t (near C F a) = B at *
          have hil2 : (ints L).length = L.length := ints_length L
          have hit : (ints L).take L.length = ints L := List.take_of_length_le (by omega)
          have hsn : ints L ++ [.val (.int .i64 (B : Int))] = ints (L ++ [(B : Int)]) := by simp [ints]
          simp (disch := omega) only [Try.ntmps94, Try.results94, go_sem, Nat.reduceLT, Nat.reduceLeDiff, Nat.reduceEqDiff, Nat.reduceAdd, Nat.reduceSub, Nat.reduceMul, reduceIte, ↓reduceIte, reduceCtorEq, Int.reduceToNat, Int.reduceLE, Int.reduceLT, Int.reduceNeg, Int.reduceSub, Int.reduceAdd, Int.reduceMul, rc, hil2, hit, hsn]
          refine ⟨(B, e, L ++ [(B : Int)], nb + 1, nb + 1 + 1), ⟨hk.1, hk.2.1, by show e < t; omega, ?_, by show (L ++ [(B : Int)]).length ≤ t + 1 - e; rw [List.length_append, List.length_singleton]; omega, by show ob < nb + 1; omega, by show nb + 1 < nb + 1 + 1; omega⟩, by show e < e + 1; omega, Wk.ofH (by simp only [go_sem, ↓List.forall_mem_cons, List.not_mem_nil, false_implies, implies_true, and_true, true_and, and_self, Nat.reduceEqDiff, reduceIte, ↓reduceIte, ri_eq, Int.natCast_add, Int.cast_ofNat_Int, rc]; try simp) (by simp (disch := omega) only [go_sem, ↓List.forall_mem_cons, List.not_mem_nil, false_implies, implies_true, and_true, true_and, and_self, Nat.reduceEqDiff, reduceIte, ↓reduceIte, ri_eq, Int.natCast_add, Int.cast_ofNat_Int, if_pos, if_neg, Nat.reduceAdd, List.nil_append]; try simp) (Nat.le_refl _)⟩
          show L ++ [(B : Int)] ++ (chn t C F e B).tail = _
          rw [← hL]
          cases e <;> simp [chn]
end Go.Sh

/-
  Chains of conflicts: the contracts of both.
-/
namespace Go.Sh
set_option linter.unusedSimpArgs false
set_option linter.unusedVariables false
open Go Go.Proofs

theorem cchain_neg {n : Int} {C : List Con} (h : ¬ 0 ≤ conflict n C) : cchain n C = [] := by rw [cchain, if_neg h]
theorem cchain_pos {n : Nat} {C : List Con} {k x y : Nat} (hk : conflict n C = (k : Int)) (hc : cg C k = ((x : Int), (y : Int), false)) : cchain n C = chn n C (farL n C y) ((farL n C y).getD x 0).toNat x := by
  rw [cchain, if_pos (by omega), hk]
  simp only [Int.toNat_natCast, hc]
theorem conflict_con {n : Int} {C : List Con} (h : 0 ≤ conflict n C) : areCons n C = true := by
  rcases Bool.eq_false_or_eq_true (areCons n C) with ha | ha
  · exact ha
  · rw [conflict_f ha] at h; omega
theorem cchain_n {n : Int} {C : List Con} (h : 0 ≤ conflict n C) : ∃ m : Nat, n = m ∧ m ≤ 8 ∧ 1 ≤ m := by
  obtain ⟨⟨n1, n2⟩, _⟩ := areCons_t (conflict_con h)
  exact ⟨n.toNat, by omega, by omega, by omega⟩
theorem conflict_atN {n : Nat} {C : List Con} (h : 0 ≤ conflict n C) : ∃ k x y : Nat, k < C.length ∧ conflict n C = (k : Int) ∧ cg C k = ((x : Int), (y : Int), false) ∧ x < y ∧ y < n ∧ ∃ d, IsD C y x d := by
  obtain ⟨_, k, h1, h2, x, y, h3, h4, h5, h6⟩ := conflict_at h
  exact ⟨k, x, y, h1, h2, h3, h4, by omega, h6⟩
theorem cchain_len {n : Int} {C : List Con} (h : 0 ≤ conflict n C) : (cchain n C).length ≤ 8 := by
  have ha := conflict_con h
  obtain ⟨m, rfl, h8, _⟩ := cchain_n h
  obtain ⟨k, x, y, h1, h2, h3, h4, h5, d, hd⟩ := conflict_atN h
  rw [cchain_pos h2 h3, chn_length]
  have hF : ((farL m C y).getD x 0).toNat < m := by
    by_cases hex : ∃ F, FarL m C y F
    · obtain ⟨F, hF⟩ := hex
      rw [← hF.eq]
      rcases hF.2 x (by omega) with ⟨g, _⟩ | ⟨e, g1, g2⟩
      · rw [g]; show 0 < m; omega
      · have := isD_lt h5 (areCons_adj ha) g2
        omega
    · rw [farL, dif_neg hex]
      simp; omega
  omega

theorem Try.specChain_f (n : Int) (C : List Con) (hC : C.length ≤ 1048576) (h : 0 ≤ conflict n C) : FCall Try.prog 25 [.val (.int .i64 n), rc C] (FlatRes (cchain n C).length 1 (ints (cchain n C))) := by
  have ha := conflict_con h
  obtain ⟨m, rfl, h8, h1⟩ := cchain_n h
  obtain ⟨k, x, y, hk, hcf, hc, hxy, hy, hd⟩ := conflict_atN h
  have wF := Try.specFind_ok m C hC (by omega) (by omega)
  have wC := Try.l18Chain_f m x y C ha (by omega) hy hd
  rw [hcf] at wF
  rw [cchain_pos hcf hc]
  obtain ⟨q1, q2, q3, q4⟩ := cons_of hk hc
  refine FCall.of_body Try.func25 rfl (by kernel_rfl) (by simp [Try.ntmps25]) ?_
  refine SW_of_vc3 [4] Try.mixed _ _ _ (by kernel_rfl) ?_
  simp (disch := omega) only [Try.ntmps25, Try.results25, go_sem, Nat.reduceLT, Nat.reduceLeDiff, Nat.reduceEqDiff, Nat.reduceAdd, Nat.reduceSub, Nat.reduceMul, reduceIte, ↓reduceIte, reduceCtorEq, Int.reduceToNat, Int.reduceLE, Int.reduceLT, Int.reduceNeg, Int.reduceSub, Int.reduceAdd, Int.reduceMul, rc]
  refine wF.callV 0 (viewL_cons_of (view_int) (viewL_cons_of (view_row) viewL_nil_of)) ?_
  simp (disch := omega) only [Try.ntmps25, Try.results25, go_sem, Nat.reduceLT, Nat.reduceLeDiff, Nat.reduceEqDiff, Nat.reduceAdd, Nat.reduceSub, Nat.reduceMul, reduceIte, ↓reduceIte, reduceCtorEq, Int.reduceToNat, Int.reduceLE, Int.reduceLT, Int.reduceNeg, Int.reduceSub, Int.reduceAdd, Int.reduceMul, rc, q1, q2, q3]
  refine CallN.of (wC.one.callOne (ints_vals _) 0 (viewL_cons_of (view_int) (viewL_cons_of (view_row) (viewL_cons_of (view_int) (viewL_cons_of (view_int) viewL_nil_of)))) ⟨rfl, rfl⟩) ?_
  simp (disch := omega) only [Try.ntmps25, Try.results25, go_sem, Nat.reduceLT, Nat.reduceLeDiff, Nat.reduceEqDiff, Nat.reduceAdd, Nat.reduceSub, Nat.reduceMul, reduceIte, ↓reduceIte, reduceCtorEq, Int.reduceToNat, Int.reduceLE, Int.reduceLT, Int.reduceNeg, Int.reduceSub, Int.reduceAdd, Int.reduceMul, rc]
  exact fin_ints rfl (by first | rfl | (simp (disch := omega) only [hx_map, hp_map, xmap_blk, hmap_cons, xmap_skipI, xmap_nil, if_pos, if_neg, ↓reduceIte]; try rfl))
theorem Try.specChain_n (n : Int) (C : List Con) (hC : C.length ≤ 1048576) (z1 : -9223372036854775808 ≤ n) (z2 : n ≤ 9223372036854775807) (h : ¬ 0 ≤ conflict n C) : FCall Try.prog 25 [.val (.int .i64 n), rc C] (FlatRes 0 1 (ints [])) := by
  have wF := Try.specFind_ok n C hC z1 z2
  refine FCall.of_body Try.func25 rfl (by kernel_rfl) (by simp [Try.ntmps25]) ?_
  refine SW_of_vc Try.mixed _ _ _ (by kernel_rfl) ?_
  simp (disch := omega) only [Try.ntmps25, Try.results25, go_sem, Nat.reduceLT, Nat.reduceLeDiff, Nat.reduceEqDiff, Nat.reduceAdd, Nat.reduceSub, Nat.reduceMul, reduceIte, ↓reduceIte, reduceCtorEq, Int.reduceToNat, Int.reduceLE, Int.reduceLT, Int.reduceNeg, Int.reduceSub, Int.reduceAdd, Int.reduceMul, rc]
  refine wF.callV 0 (viewL_cons_of (view_int) (viewL_cons_of (view_row) viewL_nil_of)) ?_
  simp (disch := omega) only [Try.ntmps25, Try.results25, go_sem, Nat.reduceLT, Nat.reduceLeDiff, Nat.reduceEqDiff, Nat.reduceAdd, Nat.reduceSub, Nat.reduceMul, reduceIte, ↓reduceIte, reduceCtorEq, Int.reduceToNat, Int.reduceLE, Int.reduceLT, Int.reduceNeg, Int.reduceSub, Int.reduceAdd, Int.reduceMul, rc]
  exact fin_ints (L := []) rfl (by first | rfl | (simp (disch := omega) only [hx_map, hp_map, xmap_blk, hmap_cons, xmap_skipI, xmap_nil, if_pos, if_neg, ↓reduceIte]; try rfl))
theorem Try.specChain_ok (n : Int) (C : List Con) (hC : C.length ≤ 1048576) (z1 : -9223372036854775808 ≤ n) (z2 : n ≤ 9223372036854775807) : PCall Try.prog 25 [.val (.int .i64 n), rc C] (ri (cchain n C)) := by
  by_cases h : 0 ≤ conflict n C
  · exact (Try.specChain_f n C hC h).pcall 2 (fun _ _ h => flat_view h)
  · rw [cchain_neg h]; exact (Try.specChain_n n C hC z1 z2 h).pcall 2 (fun _ _ h => flat_view h)
theorem Try.implChain_one (n : Int) (C : List Con) (h : 0 ≤ conflict n C) : FCall Try.prog 27 [.val (.int .i64 n), rc C] (OneRes (cchain n C).length 1 (ints (cchain n C))) := by
  have ha := conflict_con h
  obtain ⟨m, rfl, h8, h1⟩ := cchain_n h
  obtain ⟨k, x, y, hk, hcf, hc, hxy, hy, hd⟩ := conflict_atN h
  rw [cchain_pos hcf hc]
  exact (Try.implChain_f m C ha k x y hk hcf hc hxy hy hd).one
theorem Try.implChain_nil (n : Int) (C : List Con) (hC : C.length ≤ 1048576) (h : ¬ 0 ≤ conflict n C) : FCall Try.prog 27 [.val (.int .i64 n), rc C] (fun r _ => r = .val (.slice none 0 0)) := by
  have wF := Try.implFind_ok n C hC
  refine FCall.of_body Try.func27 rfl (by kernel_rfl) (by simp [Try.ntmps27]) ?_
  refine SW_of_vc Try.mixed _ _ _ (by kernel_rfl) ?_
  simp (disch := omega) only [Try.ntmps27, Try.results27, go_sem, Nat.reduceLT, Nat.reduceLeDiff, Nat.reduceEqDiff, Nat.reduceAdd, Nat.reduceSub, Nat.reduceMul, reduceIte, ↓reduceIte, reduceCtorEq, Int.reduceToNat, Int.reduceLE, Int.reduceLT, Int.reduceNeg, Int.reduceSub, Int.reduceAdd, Int.reduceMul, rc]
  refine wF.callV 0 (viewL_cons_of (view_int) (viewL_cons_of (view_row) viewL_nil_of)) ?_
  simp (disch := omega) only [Try.ntmps27, Try.results27, go_sem, Nat.reduceLT, Nat.reduceLeDiff, Nat.reduceEqDiff, Nat.reduceAdd, Nat.reduceSub, Nat.reduceMul, reduceIte, ↓reduceIte, reduceCtorEq, Int.reduceToNat, Int.reduceLE, Int.reduceLT, Int.reduceNeg, Int.reduceSub, Int.reduceAdd, Int.reduceMul, rc]
  exact Fin.val rfl
theorem Try.implChain_ok (n : Int) (C : List Con) (hC : C.length ≤ 1048576) : PCall Try.prog 27 [.val (.int .i64 n), rc C] (ri (cchain n C)) := by
  by_cases h : 0 ≤ conflict n C
  · exact (Try.implChain_one n C h).pcall 2 (fun _ _ h => one_view h rfl)
  · rw [cchain_neg h]; exact (Try.implChain_nil n C hC h).pcall 0 (by rintro r H rfl; exact view_nil)
end Go.Sh

/-
  Contracts: the constraints of some items. Of the reference and of the program.
-/
namespace Go.Sh
set_option linter.unusedSimpArgs false
set_option linter.unusedVariables false
open Go Go.Proofs

def rkeep (S : List Int) (c : Con) : Bool := decide (c.1 ∈ S) && decide (c.2.1 ∈ S)
def rmap (S : List Int) (c : Con) : Con := (idx c.1 S, idx c.2.1 S, c.2.2)
def rs (C : List Con) (S : List Int) : List Con := (C.filter (rkeep S)).map (rmap S)
theorem rs_nil (S : List Int) : rs [] S = [] := rfl
theorem rs_keep {C : List Con} {S : List Int} {k : Nat} {a b : Int} {s : Bool} (h : k < C.length) (hc : cg C k = (a, b, s)) (ha : a ∈ S) (hb : b ∈ S) : rs (C.take (k + 1)) S = rs (C.take k) S ++ [(idx a S, idx b S, s)] := by
  have e : C[k] = (a, b, s) := by rw [← hc]; simp [cg, h]
  rw [rs, List.take_succ_eq_append_getElem h, e, List.filter_append, List.map_append]
  simp [rs, rkeep, rmap, ha, hb]
theorem rs_drop {C : List Con} {S : List Int} {k : Nat} {a b : Int} {s : Bool} (h : k < C.length) (hc : cg C k = (a, b, s)) (hn : ¬ (a ∈ S ∧ b ∈ S)) : rs (C.take (k + 1)) S = rs (C.take k) S := by
  have e : C[k] = (a, b, s) := by rw [← hc]; simp [cg, h]
  rw [rs, List.take_succ_eq_append_getElem h, e, List.filter_append, List.map_append]
  have : rkeep S (a, b, s) = false := by
    rw [rkeep, ← Bool.decide_and]
    exact decide_eq_false hn
  simp [rs, this]
theorem rs_len (C : List Con) (S : List Int) : (rs C S).length ≤ C.length := by
  rw [rs, List.length_map]
  exact List.length_filter_le _ _
theorem cons_snoc (R : List Con) (a b : Int) (s : Bool) : cons R ++ [.val (.int .i64 a), .val (.int .i64 b), .val (.bool s)] = cons (R ++ [(a, b, s)]) := by
  rw [← cons_append]; rfl
theorem cons_take_self (R : List Con) : (cons R).take (R.length * 3) = cons R := by rw [← cons_length R, List.take_length]
theorem cons_nil : cons [] = [] := rfl
def slC (b : Nat) (R : List Con) : SV := if R.length = 0 then .val (.slice none 0 0) else .own b 0 R.length R.length 3 false
def slH (b : Nat) (R : List Con) : List (Nat × Blk) := if R.length = 0 then [] else [(b, ⟨cons R, false⟩)]
theorem slC_snoc (b : Nat) (R : List Con) (x : Con) : slC b (R ++ [x]) = .own b 0 (R.length + 1) (R.length + 1) 3 false := by simp [slC]
theorem slH_snoc (b : Nat) (R : List Con) (x : Con) : slH b (R ++ [x]) = [(b, ⟨cons (R ++ [x]), false⟩)] := by simp [slH]
theorem slC_f {b : Nat} {R : List Con} (h : R.length ≠ 0) : slC b R = .own b 0 R.length R.length 3 false := if_neg h
theorem slH_f {b : Nat} {R : List Con} (h : R.length ≠ 0) : slH b R = [(b, ⟨cons R, false⟩)] := if_neg h
theorem slC_t {b : Nat} {R : List Con} (h : R.length = 0) : slC b R = .val (.slice none 0 0) := if_pos h
theorem slH_t {b : Nat} {R : List Con} (h : R.length = 0) : slH b R = [] := if_pos h

theorem slH_one (b : Nat) (p q : Int) (t : Bool) : slH b [(p, q, t)] = [(b, ⟨[.val (.int .i64 p), .val (.int .i64 q), .val (.bool t)], false⟩)] := rfl
theorem rep3c (a b c : SV) : rep [a, b, c] 3 = [a, b, c] := rfl
def ResC (R : List Con) (r : SV) (H : Heap) : Prop := (R.length = 0 → r = .val (.slice none 0 0)) ∧ (R.length ≠ 0 → FlatRes R.length 3 (cons R) r H)

end Go.Sh

/-
  Contracts: the constraints of some items, of the reference; constraints marked and read back.
-/
namespace Go.Sh
set_option linter.unusedSimpArgs false
set_option linter.unusedVariables false
open Go Go.Proofs

theorem rep0 (zs : List SV) : rep zs 0 = [] := rfl

def mk3 (k : Int) (i : Nat) : Con := (k + 3 * (i : Int), k + 3 * (i : Int) + 1, Int.tmod (k + 3 * (i : Int) + 1 + 1) 3 == 0)
def markC (C : List Con) (k : Int) (i : Nat) : List Con := (List.range i).map (mk3 k) ++ C.drop i
def marksC (n : Nat) (k : Int) : List Con := (List.range n).map (mk3 k)
theorem markC_zero (C : List Con) (k : Int) : markC C k 0 = C := by simp [markC]
theorem markC_length {C : List Con} {k : Int} {i : Nat} (h : i ≤ C.length) : (markC C k i).length = C.length := by simp [markC]; omega
theorem markC_all (C : List Con) (k : Int) : markC C k C.length = marksC C.length k := by simp [markC, marksC]
theorem marksC_length (n : Nat) (k : Int) : (marksC n k).length = n := by simp [marksC]
theorem markC_set {C : List Con} {k : Int} {i : Nat} (h : i < C.length) : (markC C k i).set i (mk3 k i) = markC C k (i + 1) := by
  apply List.ext_getElem?
  intro x
  simp only [markC, List.getElem?_set, List.getElem?_append, List.length_map, List.length_range, List.getElem?_map, List.getElem?_drop, List.length_append, List.length_drop]
  by_cases h1 : i = x
  · subst h1
    have : i < i + (C.length - i) := by omega
    simp [this]
  · by_cases h2 : x < i
    · have h3 : x < i + 1 := by omega
      simp [h1, h2, h3]
    · have h3 : ¬ x < i + 1 := by omega
      simp [h1, h2, h3]
      congr 1
      omega
theorem cons_set3' {C : List Con} {k : Nat} {a b : Int} {s : Bool} (h : k < C.length) : (((cons C).set (k * 3) (.val (.int .i64 a))).set (k * 3 + 1) (.val (.int .i64 b))).set (k * 3 + 2) (.val (.bool s)) = cons (C.set k (a, b, s)) := cons_set3 h

set_option maxHeartbeats 2000000 in
theorem Try.markConstraintS_ok (C : List Con) (k : Int) (H : Heap) (b n cap : Nat) (ex e2 : Bool) (hb : H.map b = some ⟨cons C, e2⟩) (hn : n = C.length) (hL : C.length ≤ 1099511627776) (hk : 0 ≤ k) (hk2 : k ≤ 1099511627776) :
    CallS Try.prog 29 [.own b 0 n cap 3 ex, .val (.int .i64 k)] H (fun r H' => r = .val (.int .i64 (k + 3 * (n : Int))) ∧ H' = H.set b (some ⟨cons (marksC n k), e2⟩)) := by
  subst hn
  refine CallS.of_body Try.func29 rfl (by kernel_rfl) (by simp [Try.ntmps29]) ?_
  refine SW_of_vc Try.mixed _ _ _ (by kernel_rfl) ?_
  simp (disch := omega) only [Try.ntmps29, Try.results29, go_sem, Nat.reduceLT, Nat.reduceLeDiff, Nat.reduceEqDiff, Nat.reduceAdd, Nat.reduceSub, Nat.reduceMul, reduceIte, ↓reduceIte, reduceCtorEq, Int.reduceToNat, Int.reduceLE, Int.reduceLT, Int.reduceNeg, Int.reduceSub, Int.reduceAdd, Int.reduceMul]
  refine LoopW.loop (fun i : Nat => ⟨ofL [(0, .own b 0 C.length cap 3 ex), (1, .val (.int .i64 (k + 3 * (i : Int)))), (5, .val (.int .i64 i))], H.set b (some ⟨cons (markC C k i), e2⟩)⟩) (fun i => i ≤ C.length) (fun i => C.length - i) 0 (by omega) (Wk.of (by simp only [go_sem, ↓List.forall_mem_cons, List.not_mem_nil, false_implies, implies_true, and_true, true_and, and_self, Nat.reduceEqDiff, reduceIte, ↓reduceIte, ri_eq, Int.natCast_add, Int.cast_ofNat_Int, Int.natCast_zero, Int.mul_zero, Int.add_zero]; try simp) (by rw [markC_zero, Heap.set_self hb])) ?_
  intro i hi
  have hml := markC_length (k := k) hi
  have hcl := cons_length (markC C k i)
  refine SW_of_vc Try.mixed _ _ _ (by kernel_rfl) ?_
  by_cases hlt : i < C.length
  · have hset := cons_set3' (C := markC C k i) (k := i) (a := k + 3 * (i : Int)) (b := k + 3 * (i : Int) + 1) (s := Int.tmod (k + 3 * (i : Int) + 1 + 1) 3 == 0) (by omega)
    have hset2 := markC_set (k := k) hlt
    rw [mk3] at hset2
    rw [hset2] at hset
    simp (disch := omega) only [Try.ntmps29, Try.results29, go_sem, Nat.reduceLT, Nat.reduceLeDiff, Nat.reduceEqDiff, Nat.reduceAdd, Nat.reduceSub, Nat.reduceMul, reduceIte, ↓reduceIte, reduceCtorEq, Int.reduceToNat, Int.reduceLE, Int.reduceLT, Int.reduceNeg, Int.reduceSub, Int.reduceAdd, Int.reduceMul, Heap.set_at, hml, hcl, Heap.set_set, List.length_set, hset]
    have e : k + 3 * (i : Int) + 1 + 1 + 1 = k + 3 * ((i : Int) + 1) := by omega
    exact ⟨i + 1, by omega, by omega, Wk.of (by simp only [go_sem, ↓List.forall_mem_cons, List.not_mem_nil, false_implies, implies_true, and_true, true_and, and_self, Nat.reduceEqDiff, reduceIte, ↓reduceIte, ri_eq, Int.natCast_add, Int.cast_ofNat_Int, e]; try simp) rfl⟩
  · obtain rfl : i = C.length := by omega
    simp (disch := omega) only [Try.ntmps29, Try.results29, go_sem, Nat.reduceLT, Nat.reduceLeDiff, Nat.reduceEqDiff, Nat.reduceAdd, Nat.reduceSub, Nat.reduceMul, reduceIte, ↓reduceIte, reduceCtorEq, Int.reduceToNat, Int.reduceLE, Int.reduceLT, Int.reduceNeg, Int.reduceSub, Int.reduceAdd, Int.reduceMul, Heap.set_at, hml, Heap.set_set, markC_all]

open Classical in
noncomputable def heldC (C : List Con) (k : Int) : Int := if C = marksC C.length k then k + 3 * (C.length : Int) else -1
theorem heldC_marks (n : Nat) (k : Int) : heldC (marksC n k) k = k + 3 * (n : Int) := by rw [heldC, marksC_length, if_pos rfl]

theorem view_nilC {H : Heap} {f : Nat} : view H f (.val (.slice none 0 0)) = some (rc []) := by simp only [view, viewV, rc, cons, List.flatMap_nil, List.length_nil]
theorem Try.toConstraintS_one (C : List Con) (hC : C.length ≤ 1048576) : FCall Try.prog 26 [rc C] (OneRes C.length 3 (cons C)) := (Try.toConstraintS_f C hC).one
theorem Try.markConstraintS_nil (k : Int) (H : Heap) (hk : 0 ≤ k) (hk2 : k ≤ 1099511627776) : CallS Try.prog 29 [.val (.slice none 0 0), .val (.int .i64 k)] H (fun r H' => r = .val (.int .i64 k) ∧ H' = H) := by
  refine CallS.of_body Try.func29 rfl (by kernel_rfl) (by simp [Try.ntmps29]) ?_
  refine SW_of_vc Try.mixed _ _ _ (by kernel_rfl) ?_
  simp (disch := omega) only [Try.ntmps29, Try.results29, go_sem, Nat.reduceLT, Nat.reduceLeDiff, Nat.reduceEqDiff, Nat.reduceAdd, Nat.reduceSub, Nat.reduceMul, reduceIte, ↓reduceIte, reduceCtorEq, Int.reduceToNat, Int.reduceLE, Int.reduceLT, Int.reduceNeg, Int.reduceSub, Int.reduceAdd, Int.reduceMul]
  refine LoopW.loop (fun _ : Unit => ⟨ofL [(0, .val (.slice none 0 0)), (1, .val (.int .i64 k)), (5, .val (.int .i64 0))], H⟩) (fun _ => True) (fun _ => 0) () trivial (Wk.of (by simp only [go_sem, ↓List.forall_mem_cons, List.not_mem_nil, false_implies, implies_true, and_true, true_and, and_self, Nat.reduceEqDiff, reduceIte, ↓reduceIte, ri_eq, Int.natCast_add, Int.cast_ofNat_Int]; try simp) rfl) ?_
  rintro _ _
  refine SW_of_vc Try.mixed _ _ _ (by kernel_rfl) ?_
  simp (disch := omega) only [Try.ntmps29, Try.results29, go_sem, Nat.reduceLT, Nat.reduceLeDiff, Nat.reduceEqDiff, Nat.reduceAdd, Nat.reduceSub, Nat.reduceMul, reduceIte, ↓reduceIte, reduceCtorEq, Int.reduceToNat, Int.reduceLE, Int.reduceLT, Int.reduceNeg, Int.reduceSub, Int.reduceAdd, Int.reduceMul]

theorem view_ownC {H : Heap} {b n f cap : Nat} {ex : Bool} {e2 : Bool} {C : List Con} (hb : H.map b = some ⟨cons C, e2⟩) (hn : n = C.length) : view H (f + 1) (.own b 0 n cap 3 ex) = some (rc C) := by
  subst hn
  have hv : ∀ (C : List Con), viewL H f (cons C) = some (cons C) := by
    intro C
    induction C with
    | nil => exact viewL_nil_of
    | cons c C ih => exact viewL_cons_of view_int (viewL_cons_of view_int (viewL_cons_of view_bool ih))
  have ht : (cons C).take (C.length * 3) = cons C := cons_take_self C
  simp only [Sh.view, hb, List.drop_zero, ht, hv]
  rw [if_pos (by rw [cons_length]; omega), rc]
theorem view_rowC {H : Heap} {f n : Nat} {ex : Bool} {C : List Con} (hn : n = C.length) : view H f (.row n ex (cons C)) = some (rc C) := by subst hn; simp only [view, rc]
end Go.Sh

/-
  The law FnExactConflictChain, walked.
-/
namespace Go.Sh
set_option linter.unusedSimpArgs false
set_option linter.unusedVariables false
open Go Go.Proofs

set_option maxHeartbeats 16000000 in
theorem Try.exactConflictChain_ok (n : Int) (C : List Con) (n1 : -9223372036854775808 ≤ n) (n2 : n ≤ 9223372036854775807) (Cw : (∀ c ∈ C, i64R c.1 ∧ i64R c.2.1) ∧ C.length ≤ maxLen) : PCall Try.prog 4 [.val (.int .i64 n), rc C] (.val (.bool true)) := by
  refine FCall.pcall (R := fun r _ => r = .val (.bool true)) ?_ 0 (by rintro r H rfl; exact view_bool)
  refine FCall.of_body Try.func4 rfl (by kernel_rfl) (by simp [Try.ntmps4]) ?_
  refine SW_of_vc Try.mixed _ _ _ (by kernel_rfl) ?_
  have mmC : C.length ≤ 9223372036854775807 := Cw.2
  have zC := Try.szConstraintS_ok C (1048576) mmC (by omega) (by omega)
  by_cases sC : (1048576 : Int) < C.length
  · rw [if_pos sC] at zC
    simp (disch := omega) only [Try.ntmps4, Try.results4, go_sem, Nat.reduceLT, Nat.reduceLeDiff, Nat.reduceEqDiff, Nat.reduceAdd, Nat.reduceSub, Nat.reduceMul, reduceIte, ↓reduceIte, reduceCtorEq, Int.reduceToNat, Int.reduceLE, Int.reduceLT, Int.reduceNeg, Int.reduceSub, Int.reduceAdd, Int.reduceMul, beq_self_eq_true, bne_self_eq_false, decide_true, rc, held_marks]
    refine zC.callV 0 (viewL_cons_of (view_row) (viewL_cons_of (view_int) viewL_nil_of)) ?_
    simp (disch := omega) only [Try.ntmps4, Try.results4, go_sem, Nat.reduceLT, Nat.reduceLeDiff, Nat.reduceEqDiff, Nat.reduceAdd, Nat.reduceSub, Nat.reduceMul, reduceIte, ↓reduceIte, reduceCtorEq, Int.reduceToNat, Int.reduceLE, Int.reduceLT, Int.reduceNeg, Int.reduceSub, Int.reduceAdd, Int.reduceMul, beq_self_eq_true, bne_self_eq_false, decide_true, rc, held_marks]
    exact Fin.val rfl
  rw [if_neg sC] at zC
  have hC : C.length ≤ 1048576 := by omega
  have wS := Try.specChain_ok n C hC n1 n2
  have wI := Try.implChain_ok n C hC
  by_cases h : 0 ≤ conflict n C
  · have wO := Try.implChain_one n C h
    have hlen := (rfl : (cchain n C).length = (cchain n C).length)
    have h8 := cchain_len h
    simp (disch := omega) only [Try.ntmps4, Try.results4, go_sem, Nat.reduceLT, Nat.reduceLeDiff, Nat.reduceEqDiff, Nat.reduceAdd, Nat.reduceSub, Nat.reduceMul, reduceIte, ↓reduceIte, reduceCtorEq, Int.reduceToNat, Int.reduceLE, Int.reduceLT, Int.reduceNeg, Int.reduceSub, Int.reduceAdd, Int.reduceMul, beq_self_eq_true, bne_self_eq_false, decide_true, rc, held_marks, hlen]
    refine zC.callV 0 (viewL_cons_of (view_row) (viewL_cons_of (view_int) viewL_nil_of)) ?_
    simp (disch := omega) only [Try.ntmps4, Try.results4, go_sem, Nat.reduceLT, Nat.reduceLeDiff, Nat.reduceEqDiff, Nat.reduceAdd, Nat.reduceSub, Nat.reduceMul, reduceIte, ↓reduceIte, reduceCtorEq, Int.reduceToNat, Int.reduceLE, Int.reduceLT, Int.reduceNeg, Int.reduceSub, Int.reduceAdd, Int.reduceMul, beq_self_eq_true, bne_self_eq_false, decide_true, rc, held_marks, hlen]
    refine (Try.toConstraintS_ok C hC).callV 0 (viewL_cons_of (view_row) viewL_nil_of) ?_
    simp (disch := omega) only [Try.ntmps4, Try.results4, go_sem, Nat.reduceLT, Nat.reduceLeDiff, Nat.reduceEqDiff, Nat.reduceAdd, Nat.reduceSub, Nat.reduceMul, reduceIte, ↓reduceIte, reduceCtorEq, Int.reduceToNat, Int.reduceLE, Int.reduceLT, Int.reduceNeg, Int.reduceSub, Int.reduceAdd, Int.reduceMul, beq_self_eq_true, bne_self_eq_false, decide_true, rc, held_marks, hlen]
    refine wS.callV 0 (viewL_cons_of (view_int) (viewL_cons_of (view_row) viewL_nil_of)) ?_
    simp (disch := omega) only [Try.ntmps4, Try.results4, go_sem, Nat.reduceLT, Nat.reduceLeDiff, Nat.reduceEqDiff, Nat.reduceAdd, Nat.reduceSub, Nat.reduceMul, reduceIte, ↓reduceIte, reduceCtorEq, Int.reduceToNat, Int.reduceLE, Int.reduceLT, Int.reduceNeg, Int.reduceSub, Int.reduceAdd, Int.reduceMul, beq_self_eq_true, bne_self_eq_false, decide_true, rc, held_marks, hlen]
    refine (Try.toConstraintS_one C hC).callOne (cons_vals _) 2 (viewL_cons_of (view_row) viewL_nil_of) ?_
    simp (disch := omega) only [Try.ntmps4, Try.results4, go_sem, Nat.reduceLT, Nat.reduceLeDiff, Nat.reduceEqDiff, Nat.reduceAdd, Nat.reduceSub, Nat.reduceMul, reduceIte, ↓reduceIte, reduceCtorEq, Int.reduceToNat, Int.reduceLE, Int.reduceLT, Int.reduceNeg, Int.reduceSub, Int.reduceAdd, Int.reduceMul, beq_self_eq_true, bne_self_eq_false, decide_true, rc, held_marks, hlen]
    refine wO.callOne (ints_vals _) 2 (viewL_cons_of (view_int) (viewL_cons_of (view_ownC (C := C) (e2 := false) (by first | rfl | (simp (disch := omega) only [hx_map, hp_map, xmap_blk, hmap_cons, xmap_skipI, xmap_nil, if_pos, if_neg, ↓reduceIte]; try rfl)) (by first | rfl | omega | (simp [marks_length]; done) | (simp [marks_length]; omega) | (rw [marksT_length] <;> omega) | (rw [marksC_length] <;> omega))) viewL_nil_of)) ?_
    simp (disch := omega) only [Try.ntmps4, Try.results4, go_sem, Nat.reduceLT, Nat.reduceLeDiff, Nat.reduceEqDiff, Nat.reduceAdd, Nat.reduceSub, Nat.reduceMul, reduceIte, ↓reduceIte, reduceCtorEq, Int.reduceToNat, Int.reduceLE, Int.reduceLT, Int.reduceNeg, Int.reduceSub, Int.reduceAdd, Int.reduceMul, beq_self_eq_true, bne_self_eq_false, decide_true, rc, held_marks, hlen]
    refine (Try.eqIntS_ok (cchain n C) (cchain n C) (by first | omega | simp | (simp; omega)) (by first | omega | simp | (simp; omega))).callV 2 (viewL_cons_of (view_own (L := (cchain n C)) (e2 := false) (by first | rfl | (simp (disch := omega) only [hx_map, hp_map, xmap_blk, hmap_cons, xmap_skipI, xmap_nil, if_pos, if_neg, ↓reduceIte]; try rfl)) (by first | rfl | omega | (simp [marks_length]; done) | (simp [marks_length]; omega) | (rw [marksT_length] <;> omega) | (rw [marksC_length] <;> omega))) (viewL_cons_of (view_rowL (by first | rfl | omega | (simp [marks_length]; done) | (simp [marks_length]; omega) | (rw [marksT_length] <;> omega) | (rw [marksC_length] <;> omega))) viewL_nil_of)) ?_
    simp (disch := omega) only [Try.ntmps4, Try.results4, go_sem, Nat.reduceLT, Nat.reduceLeDiff, Nat.reduceEqDiff, Nat.reduceAdd, Nat.reduceSub, Nat.reduceMul, reduceIte, ↓reduceIte, reduceCtorEq, Int.reduceToNat, Int.reduceLE, Int.reduceLT, Int.reduceNeg, Int.reduceSub, Int.reduceAdd, Int.reduceMul, beq_self_eq_true, bne_self_eq_false, decide_true, rc, held_marks, hlen]
    refine (Try.toConstraintS_ok C hC).callV 2 (viewL_cons_of (view_row) viewL_nil_of) ?_
    simp (disch := omega) only [Try.ntmps4, Try.results4, go_sem, Nat.reduceLT, Nat.reduceLeDiff, Nat.reduceEqDiff, Nat.reduceAdd, Nat.reduceSub, Nat.reduceMul, reduceIte, ↓reduceIte, reduceCtorEq, Int.reduceToNat, Int.reduceLE, Int.reduceLT, Int.reduceNeg, Int.reduceSub, Int.reduceAdd, Int.reduceMul, beq_self_eq_true, bne_self_eq_false, decide_true, rc, held_marks, hlen]
    refine (Try.eqConstraintS_ok C C hC hC).callV 2 (viewL_cons_of (view_ownC (C := C) (e2 := false) (by first | rfl | (simp (disch := omega) only [hx_map, hp_map, xmap_blk, hmap_cons, xmap_skipI, xmap_nil, if_pos, if_neg, ↓reduceIte]; try rfl)) (by first | rfl | omega | (simp [marks_length]; done) | (simp [marks_length]; omega) | (rw [marksT_length] <;> omega) | (rw [marksC_length] <;> omega))) (viewL_cons_of (view_row) viewL_nil_of)) ?_
    simp (disch := omega) only [Try.ntmps4, Try.results4, go_sem, Nat.reduceLT, Nat.reduceLeDiff, Nat.reduceEqDiff, Nat.reduceAdd, Nat.reduceSub, Nat.reduceMul, reduceIte, ↓reduceIte, reduceCtorEq, Int.reduceToNat, Int.reduceLE, Int.reduceLT, Int.reduceNeg, Int.reduceSub, Int.reduceAdd, Int.reduceMul, beq_self_eq_true, bne_self_eq_false, decide_true, rc, held_marks, hlen]
    refine (Try.markConstraintS_ok C (1) _ _ _ _ false false (by first | rfl | (simp (disch := omega) only [hx_map, hp_map, xmap_blk, hmap_cons, xmap_skipI, xmap_nil, if_pos, if_neg, ↓reduceIte]; try rfl)) (by first | rfl | omega | (simp [marks_length]; done) | (simp [marks_length]; omega) | (rw [marksT_length] <;> omega) | (rw [marksC_length] <;> omega)) (by omega) (by omega) (by omega)).callDet ?_
    simp (disch := omega) only [Try.ntmps4, Try.results4, go_sem, Nat.reduceLT, Nat.reduceLeDiff, Nat.reduceEqDiff, Nat.reduceAdd, Nat.reduceSub, Nat.reduceMul, reduceIte, ↓reduceIte, reduceCtorEq, Int.reduceToNat, Int.reduceLE, Int.reduceLT, Int.reduceNeg, Int.reduceSub, Int.reduceAdd, Int.reduceMul, beq_self_eq_true, bne_self_eq_false, decide_true, rc, held_marks, hlen]
    refine (Try.eqIntS_ok (cchain n C) (cchain n C) (by first | omega | simp | (simp; omega)) (by first | omega | simp | (simp; omega))).callV 2 (viewL_cons_of (view_own (L := (cchain n C)) (e2 := false) (by first | rfl | (simp (disch := omega) only [hx_map, hp_map, xmap_blk, hmap_cons, xmap_skipI, xmap_nil, if_pos, if_neg, ↓reduceIte]; try rfl)) (by first | rfl | omega | (simp [marks_length]; done) | (simp [marks_length]; omega) | (rw [marksT_length] <;> omega) | (rw [marksC_length] <;> omega))) (viewL_cons_of (view_rowL (by first | rfl | omega | (simp [marks_length]; done) | (simp [marks_length]; omega) | (rw [marksT_length] <;> omega) | (rw [marksC_length] <;> omega))) viewL_nil_of)) ?_
    simp (disch := omega) only [Try.ntmps4, Try.results4, go_sem, Nat.reduceLT, Nat.reduceLeDiff, Nat.reduceEqDiff, Nat.reduceAdd, Nat.reduceSub, Nat.reduceMul, reduceIte, ↓reduceIte, reduceCtorEq, Int.reduceToNat, Int.reduceLE, Int.reduceLT, Int.reduceNeg, Int.reduceSub, Int.reduceAdd, Int.reduceMul, beq_self_eq_true, bne_self_eq_false, decide_true, rc, held_marks, hlen]
    refine (Try.markIntS_ok (cchain n C) 1 _ _ _ _ false false (by first | rfl | (simp (disch := omega) only [hx_map, hp_map, xmap_blk, hmap_cons, xmap_skipI, xmap_nil, if_pos, if_neg, ↓reduceIte]; try rfl)) (by first | rfl | omega | (simp [marks_length]; done) | (simp [marks_length]; omega) | (rw [marksT_length] <;> omega) | (rw [marksC_length] <;> omega)) (by omega) (by omega) (by omega)).callDet ?_
    simp (disch := omega) only [Try.ntmps4, Try.results4, go_sem, Nat.reduceLT, Nat.reduceLeDiff, Nat.reduceEqDiff, Nat.reduceAdd, Nat.reduceSub, Nat.reduceMul, reduceIte, ↓reduceIte, reduceCtorEq, Int.reduceToNat, Int.reduceLE, Int.reduceLT, Int.reduceNeg, Int.reduceSub, Int.reduceAdd, Int.reduceMul, beq_self_eq_true, bne_self_eq_false, decide_true, rc, held_marks, hlen]
    refine (Try.heldIntS_ok (marks ((cchain n C).length) 1) 1 (by rw [marks_length]; omega) (by omega) (by omega)).callV 2 (viewL_cons_of (view_own (L := marks _ 1) (e2 := false) (by first | rfl | (simp (disch := omega) only [hx_map, hp_map, xmap_blk, hmap_cons, xmap_skipI, xmap_nil, if_pos, if_neg, ↓reduceIte]; try rfl)) (by first | rfl | omega | (simp [marks_length]; done) | (simp [marks_length]; omega) | (rw [marksT_length] <;> omega) | (rw [marksC_length] <;> omega))) (viewL_cons_of (view_int) viewL_nil_of)) ?_
    simp (disch := omega) only [Try.ntmps4, Try.results4, go_sem, Nat.reduceLT, Nat.reduceLeDiff, Nat.reduceEqDiff, Nat.reduceAdd, Nat.reduceSub, Nat.reduceMul, reduceIte, ↓reduceIte, reduceCtorEq, Int.reduceToNat, Int.reduceLE, Int.reduceLT, Int.reduceNeg, Int.reduceSub, Int.reduceAdd, Int.reduceMul, beq_self_eq_true, bne_self_eq_false, decide_true, rc, held_marks, hlen]
    refine (Try.toConstraintS_ok C hC).callV 0 (viewL_cons_of (view_row) viewL_nil_of) ?_
    simp (disch := omega) only [Try.ntmps4, Try.results4, go_sem, Nat.reduceLT, Nat.reduceLeDiff, Nat.reduceEqDiff, Nat.reduceAdd, Nat.reduceSub, Nat.reduceMul, reduceIte, ↓reduceIte, reduceCtorEq, Int.reduceToNat, Int.reduceLE, Int.reduceLT, Int.reduceNeg, Int.reduceSub, Int.reduceAdd, Int.reduceMul, beq_self_eq_true, bne_self_eq_false, decide_true, rc, held_marks, hlen]
    refine wI.callV 2 (viewL_cons_of (view_int) (viewL_cons_of (view_row) viewL_nil_of)) ?_
    simp (disch := omega) only [Try.ntmps4, Try.results4, go_sem, Nat.reduceLT, Nat.reduceLeDiff, Nat.reduceEqDiff, Nat.reduceAdd, Nat.reduceSub, Nat.reduceMul, reduceIte, ↓reduceIte, reduceCtorEq, Int.reduceToNat, Int.reduceLE, Int.reduceLT, Int.reduceNeg, Int.reduceSub, Int.reduceAdd, Int.reduceMul, beq_self_eq_true, bne_self_eq_false, decide_true, rc, held_marks, hlen]
    refine (Try.eqIntS_ok (cchain n C) (cchain n C) (by first | omega | simp | (simp; omega)) (by first | omega | simp | (simp; omega))).callV 2 (viewL_cons_of (view_rowL (by first | rfl | omega | (simp [marks_length]; done) | (simp [marks_length]; omega) | (rw [marksT_length] <;> omega) | (rw [marksC_length] <;> omega))) (viewL_cons_of (view_rowL (by first | rfl | omega | (simp [marks_length]; done) | (simp [marks_length]; omega) | (rw [marksT_length] <;> omega) | (rw [marksC_length] <;> omega))) viewL_nil_of)) ?_
    simp (disch := omega) only [Try.ntmps4, Try.results4, go_sem, Nat.reduceLT, Nat.reduceLeDiff, Nat.reduceEqDiff, Nat.reduceAdd, Nat.reduceSub, Nat.reduceMul, reduceIte, ↓reduceIte, reduceCtorEq, Int.reduceToNat, Int.reduceLE, Int.reduceLT, Int.reduceNeg, Int.reduceSub, Int.reduceAdd, Int.reduceMul, beq_self_eq_true, bne_self_eq_false, decide_true, rc, held_marks, hlen]
    refine (Try.heldIntS_ok (marks ((cchain n C).length) 1) 1 (by rw [marks_length]; omega) (by omega) (by omega)).callV 2 (viewL_cons_of (view_own (L := marks _ 1) (e2 := false) (by first | rfl | (simp (disch := omega) only [hx_map, hp_map, xmap_blk, hmap_cons, xmap_skipI, xmap_nil, if_pos, if_neg, ↓reduceIte]; try rfl)) (by first | rfl | omega | (simp [marks_length]; done) | (simp [marks_length]; omega) | (rw [marksT_length] <;> omega) | (rw [marksC_length] <;> omega))) (viewL_cons_of (view_int) viewL_nil_of)) ?_
    simp (disch := omega) only [Try.ntmps4, Try.results4, go_sem, Nat.reduceLT, Nat.reduceLeDiff, Nat.reduceEqDiff, Nat.reduceAdd, Nat.reduceSub, Nat.reduceMul, reduceIte, ↓reduceIte, reduceCtorEq, Int.reduceToNat, Int.reduceLE, Int.reduceLT, Int.reduceNeg, Int.reduceSub, Int.reduceAdd, Int.reduceMul, beq_self_eq_true, bne_self_eq_false, decide_true, rc, held_marks, hlen]
    exact Fin.val rfl
  · have hnil := cchain_neg h
    have wN := Try.implChain_nil n C hC h
    rw [hnil] at wS wI
    have hheld : held [] 1 = 1 := by simp [held, marks]
    simp (disch := omega) only [Try.ntmps4, Try.results4, go_sem, Nat.reduceLT, Nat.reduceLeDiff, Nat.reduceEqDiff, Nat.reduceAdd, Nat.reduceSub, Nat.reduceMul, reduceIte, ↓reduceIte, reduceCtorEq, Int.reduceToNat, Int.reduceLE, Int.reduceLT, Int.reduceNeg, Int.reduceSub, Int.reduceAdd, Int.reduceMul, beq_self_eq_true, bne_self_eq_false, decide_true, rc, held_marks, hheld]
    refine zC.callV 0 (viewL_cons_of (view_row) (viewL_cons_of (view_int) viewL_nil_of)) ?_
    simp (disch := omega) only [Try.ntmps4, Try.results4, go_sem, Nat.reduceLT, Nat.reduceLeDiff, Nat.reduceEqDiff, Nat.reduceAdd, Nat.reduceSub, Nat.reduceMul, reduceIte, ↓reduceIte, reduceCtorEq, Int.reduceToNat, Int.reduceLE, Int.reduceLT, Int.reduceNeg, Int.reduceSub, Int.reduceAdd, Int.reduceMul, beq_self_eq_true, bne_self_eq_false, decide_true, rc, held_marks, hheld]
    refine (Try.toConstraintS_ok C hC).callV 0 (viewL_cons_of (view_row) viewL_nil_of) ?_
    simp (disch := omega) only [Try.ntmps4, Try.results4, go_sem, Nat.reduceLT, Nat.reduceLeDiff, Nat.reduceEqDiff, Nat.reduceAdd, Nat.reduceSub, Nat.reduceMul, reduceIte, ↓reduceIte, reduceCtorEq, Int.reduceToNat, Int.reduceLE, Int.reduceLT, Int.reduceNeg, Int.reduceSub, Int.reduceAdd, Int.reduceMul, beq_self_eq_true, bne_self_eq_false, decide_true, rc, held_marks, hheld]
    refine wS.callV 0 (viewL_cons_of (view_int) (viewL_cons_of (view_row) viewL_nil_of)) ?_
    simp (disch := omega) only [Try.ntmps4, Try.results4, go_sem, Nat.reduceLT, Nat.reduceLeDiff, Nat.reduceEqDiff, Nat.reduceAdd, Nat.reduceSub, Nat.reduceMul, reduceIte, ↓reduceIte, reduceCtorEq, Int.reduceToNat, Int.reduceLE, Int.reduceLT, Int.reduceNeg, Int.reduceSub, Int.reduceAdd, Int.reduceMul, beq_self_eq_true, bne_self_eq_false, decide_true, rc, held_marks, hheld]
    refine (Try.toConstraintS_one C hC).callOne (cons_vals _) 2 (viewL_cons_of (view_row) viewL_nil_of) ?_
    simp (disch := omega) only [Try.ntmps4, Try.results4, go_sem, Nat.reduceLT, Nat.reduceLeDiff, Nat.reduceEqDiff, Nat.reduceAdd, Nat.reduceSub, Nat.reduceMul, reduceIte, ↓reduceIte, reduceCtorEq, Int.reduceToNat, Int.reduceLE, Int.reduceLT, Int.reduceNeg, Int.reduceSub, Int.reduceAdd, Int.reduceMul, beq_self_eq_true, bne_self_eq_false, decide_true, rc, held_marks, hheld]
    refine wN.callVal 2 (viewL_cons_of (view_int) (viewL_cons_of (view_ownC (C := C) (e2 := false) (by first | rfl | (simp (disch := omega) only [hx_map, hp_map, xmap_blk, hmap_cons, xmap_skipI, xmap_nil, if_pos, if_neg, ↓reduceIte]; try rfl)) (by first | rfl | omega | (simp [marks_length]; done) | (simp [marks_length]; omega) | (rw [marksT_length] <;> omega) | (rw [marksC_length] <;> omega))) viewL_nil_of)) ?_
    simp (disch := omega) only [Try.ntmps4, Try.results4, go_sem, Nat.reduceLT, Nat.reduceLeDiff, Nat.reduceEqDiff, Nat.reduceAdd, Nat.reduceSub, Nat.reduceMul, reduceIte, ↓reduceIte, reduceCtorEq, Int.reduceToNat, Int.reduceLE, Int.reduceLT, Int.reduceNeg, Int.reduceSub, Int.reduceAdd, Int.reduceMul, beq_self_eq_true, bne_self_eq_false, decide_true, rc, held_marks, hheld]
    refine (Try.eqIntS_ok [] [] (by first | omega | simp | (simp; omega)) (by first | omega | simp | (simp; omega))).callV 2 (viewL_cons_of (view_nil) (viewL_cons_of (view_rowL (by first | rfl | omega | (simp [marks_length]; done) | (simp [marks_length]; omega) | (rw [marksT_length] <;> omega) | (rw [marksC_length] <;> omega))) viewL_nil_of)) ?_
    simp (disch := omega) only [Try.ntmps4, Try.results4, go_sem, Nat.reduceLT, Nat.reduceLeDiff, Nat.reduceEqDiff, Nat.reduceAdd, Nat.reduceSub, Nat.reduceMul, reduceIte, ↓reduceIte, reduceCtorEq, Int.reduceToNat, Int.reduceLE, Int.reduceLT, Int.reduceNeg, Int.reduceSub, Int.reduceAdd, Int.reduceMul, beq_self_eq_true, bne_self_eq_false, decide_true, rc, held_marks, hheld]
    refine (Try.toConstraintS_ok C hC).callV 2 (viewL_cons_of (view_row) viewL_nil_of) ?_
    simp (disch := omega) only [Try.ntmps4, Try.results4, go_sem, Nat.reduceLT, Nat.reduceLeDiff, Nat.reduceEqDiff, Nat.reduceAdd, Nat.reduceSub, Nat.reduceMul, reduceIte, ↓reduceIte, reduceCtorEq, Int.reduceToNat, Int.reduceLE, Int.reduceLT, Int.reduceNeg, Int.reduceSub, Int.reduceAdd, Int.reduceMul, beq_self_eq_true, bne_self_eq_false, decide_true, rc, held_marks, hheld]
    refine (Try.eqConstraintS_ok C C hC hC).callV 2 (viewL_cons_of (view_ownC (C := C) (e2 := false) (by first | rfl | (simp (disch := omega) only [hx_map, hp_map, xmap_blk, hmap_cons, xmap_skipI, xmap_nil, if_pos, if_neg, ↓reduceIte]; try rfl)) (by first | rfl | omega | (simp [marks_length]; done) | (simp [marks_length]; omega) | (rw [marksT_length] <;> omega) | (rw [marksC_length] <;> omega))) (viewL_cons_of (view_row) viewL_nil_of)) ?_
    simp (disch := omega) only [Try.ntmps4, Try.results4, go_sem, Nat.reduceLT, Nat.reduceLeDiff, Nat.reduceEqDiff, Nat.reduceAdd, Nat.reduceSub, Nat.reduceMul, reduceIte, ↓reduceIte, reduceCtorEq, Int.reduceToNat, Int.reduceLE, Int.reduceLT, Int.reduceNeg, Int.reduceSub, Int.reduceAdd, Int.reduceMul, beq_self_eq_true, bne_self_eq_false, decide_true, rc, held_marks, hheld]
    refine (Try.markConstraintS_ok C (1) _ _ _ _ false false (by first | rfl | (simp (disch := omega) only [hx_map, hp_map, xmap_blk, hmap_cons, xmap_skipI, xmap_nil, if_pos, if_neg, ↓reduceIte]; try rfl)) (by first | rfl | omega | (simp [marks_length]; done) | (simp [marks_length]; omega) | (rw [marksT_length] <;> omega) | (rw [marksC_length] <;> omega)) (by omega) (by omega) (by omega)).callDet ?_
    simp (disch := omega) only [Try.ntmps4, Try.results4, go_sem, Nat.reduceLT, Nat.reduceLeDiff, Nat.reduceEqDiff, Nat.reduceAdd, Nat.reduceSub, Nat.reduceMul, reduceIte, ↓reduceIte, reduceCtorEq, Int.reduceToNat, Int.reduceLE, Int.reduceLT, Int.reduceNeg, Int.reduceSub, Int.reduceAdd, Int.reduceMul, beq_self_eq_true, bne_self_eq_false, decide_true, rc, held_marks, hheld]
    refine (Try.eqIntS_ok [] [] (by first | omega | simp | (simp; omega)) (by first | omega | simp | (simp; omega))).callV 2 (viewL_cons_of (view_nil) (viewL_cons_of (view_rowL (by first | rfl | omega | (simp [marks_length]; done) | (simp [marks_length]; omega) | (rw [marksT_length] <;> omega) | (rw [marksC_length] <;> omega))) viewL_nil_of)) ?_
    simp (disch := omega) only [Try.ntmps4, Try.results4, go_sem, Nat.reduceLT, Nat.reduceLeDiff, Nat.reduceEqDiff, Nat.reduceAdd, Nat.reduceSub, Nat.reduceMul, reduceIte, ↓reduceIte, reduceCtorEq, Int.reduceToNat, Int.reduceLE, Int.reduceLT, Int.reduceNeg, Int.reduceSub, Int.reduceAdd, Int.reduceMul, beq_self_eq_true, bne_self_eq_false, decide_true, rc, held_marks, hheld]
    refine (Try.markIntS_nil 1 _ (by omega) (by omega)).callDet ?_
    simp (disch := omega) only [Try.ntmps4, Try.results4, go_sem, Nat.reduceLT, Nat.reduceLeDiff, Nat.reduceEqDiff, Nat.reduceAdd, Nat.reduceSub, Nat.reduceMul, reduceIte, ↓reduceIte, reduceCtorEq, Int.reduceToNat, Int.reduceLE, Int.reduceLT, Int.reduceNeg, Int.reduceSub, Int.reduceAdd, Int.reduceMul, beq_self_eq_true, bne_self_eq_false, decide_true, rc, held_marks, hheld]
    refine (Try.heldIntS_ok [] 1 (by simp) (by omega) (by omega)).callV 2 (viewL_cons_of (view_nil) (viewL_cons_of (view_int) viewL_nil_of)) ?_
    simp (disch := omega) only [Try.ntmps4, Try.results4, go_sem, Nat.reduceLT, Nat.reduceLeDiff, Nat.reduceEqDiff, Nat.reduceAdd, Nat.reduceSub, Nat.reduceMul, reduceIte, ↓reduceIte, reduceCtorEq, Int.reduceToNat, Int.reduceLE, Int.reduceLT, Int.reduceNeg, Int.reduceSub, Int.reduceAdd, Int.reduceMul, beq_self_eq_true, bne_self_eq_false, decide_true, rc, held_marks, hheld]
    refine (Try.toConstraintS_ok C hC).callV 0 (viewL_cons_of (view_row) viewL_nil_of) ?_
    simp (disch := omega) only [Try.ntmps4, Try.results4, go_sem, Nat.reduceLT, Nat.reduceLeDiff, Nat.reduceEqDiff, Nat.reduceAdd, Nat.reduceSub, Nat.reduceMul, reduceIte, ↓reduceIte, reduceCtorEq, Int.reduceToNat, Int.reduceLE, Int.reduceLT, Int.reduceNeg, Int.reduceSub, Int.reduceAdd, Int.reduceMul, beq_self_eq_true, bne_self_eq_false, decide_true, rc, held_marks, hheld]
    refine wI.callV 2 (viewL_cons_of (view_int) (viewL_cons_of (view_row) viewL_nil_of)) ?_
    simp (disch := omega) only [Try.ntmps4, Try.results4, go_sem, Nat.reduceLT, Nat.reduceLeDiff, Nat.reduceEqDiff, Nat.reduceAdd, Nat.reduceSub, Nat.reduceMul, reduceIte, ↓reduceIte, reduceCtorEq, Int.reduceToNat, Int.reduceLE, Int.reduceLT, Int.reduceNeg, Int.reduceSub, Int.reduceAdd, Int.reduceMul, beq_self_eq_true, bne_self_eq_false, decide_true, rc, held_marks, hheld]
    refine (Try.eqIntS_ok [] [] (by first | omega | simp | (simp; omega)) (by first | omega | simp | (simp; omega))).callV 2 (viewL_cons_of (view_rowL (by first | rfl | omega | (simp [marks_length]; done) | (simp [marks_length]; omega) | (rw [marksT_length] <;> omega) | (rw [marksC_length] <;> omega))) (viewL_cons_of (view_rowL (by first | rfl | omega | (simp [marks_length]; done) | (simp [marks_length]; omega) | (rw [marksT_length] <;> omega) | (rw [marksC_length] <;> omega))) viewL_nil_of)) ?_
    simp (disch := omega) only [Try.ntmps4, Try.results4, go_sem, Nat.reduceLT, Nat.reduceLeDiff, Nat.reduceEqDiff, Nat.reduceAdd, Nat.reduceSub, Nat.reduceMul, reduceIte, ↓reduceIte, reduceCtorEq, Int.reduceToNat, Int.reduceLE, Int.reduceLT, Int.reduceNeg, Int.reduceSub, Int.reduceAdd, Int.reduceMul, beq_self_eq_true, bne_self_eq_false, decide_true, rc, held_marks, hheld]
    refine (Try.heldIntS_ok [] 1 (by simp) (by omega) (by omega)).callV 2 (viewL_cons_of (view_nil) (viewL_cons_of (view_int) viewL_nil_of)) ?_
    simp (disch := omega) only [Try.ntmps4, Try.results4, go_sem, Nat.reduceLT, Nat.reduceLeDiff, Nat.reduceEqDiff, Nat.reduceAdd, Nat.reduceSub, Nat.reduceMul, reduceIte, ↓reduceIte, reduceCtorEq, Int.reduceToNat, Int.reduceLE, Int.reduceLT, Int.reduceNeg, Int.reduceSub, Int.reduceAdd, Int.reduceMul, beq_self_eq_true, bne_self_eq_false, decide_true, rc, held_marks, hheld]
    exact Fin.val rfl
end Go.Sh
