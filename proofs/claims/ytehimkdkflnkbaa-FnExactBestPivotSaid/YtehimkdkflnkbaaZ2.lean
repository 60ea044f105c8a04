/-
  Pivots. Plain; and of the program and the reference.
-/
import Derived.Test.YtehimkdkflnkbaaZ1
import Derived.Test.YtehimkdkflnkbaaD3
import Derived.Test.YtehimkdkflnkbaaJ2
import Derived.Test.YtehimkdkflnkbaaC4
import Derived.Test.YtehimkdkflnkbaaC5
import Derived.Test.YtehimkdkflnkbaaK2
import Derived.Test.YtehimkdkflnkbaaN1
import Derived.Test.YtehimkdkflnkbaaN2
namespace Go.Sh
set_option linter.unusedSimpArgs false
set_option linter.unusedVariables false
open Go Go.Proofs

theorem ord_t {n : Int} {L : List Int} (h : isOrd n L = true) : (1 ≤ n ∧ n ≤ 8) ∧ (L.length : Int) = n ∧ (∀ k, k < L.length → 0 ≤ L.getD k 0 ∧ L.getD k 0 ≤ n - 1) ∧ ∀ i k, i < k → k < L.length → L.getD i 0 ≠ L.getD k 0 := by
  simp only [isOrd, Bool.and_eq_true] at h
  have hl := of_decide_eq_true h.2.1
  have hs : ∀ k, k ≤ L.length → okO n (L.take k) (L.drop k) = true := by
    intro k
    induction k with
    | zero => intro _; simpa using h.2.2
    | succ k ih =>
      intro hk
      have := ih (by omega)
      rw [okO_step (by omega), Bool.and_eq_true, Bool.and_eq_true] at this
      exact this.2.2
  have hk : ∀ k, k < L.length → inR (L.getD k 0) 0 (n - 1) = true ∧ (L.take k).contains (L.getD k 0) = false := fun k hk => by
    have := hs k (by omega)
    rw [okO_step hk, Bool.and_eq_true, Bool.and_eq_true] at this
    exact ⟨this.1, by simpa using this.2.1⟩
  refine ⟨inR_of h.1, hl, fun k h => inR_of (hk k h).1, fun i k hik hkl e => ?_⟩
  have h2 := (hk k hkl).2
  have : L.getD k 0 ∈ L.take k := by
    rw [← e]
    have hi : i < (L.take k).length := by rw [List.length_take]; omega
    have e2 : L.getD i 0 = (L.take k)[i] := by simp [show i < L.length by omega]
    rw [e2]; exact List.getElem_mem hi
  rw [List.contains_iff_mem.2 this] at h2
  cases h2

def gen (n : Nat) (f : Nat → Int) : List Int := (List.range n).map f
theorem gen_length (n : Nat) (f : Nat → Int) : (gen n f).length = n := by simp [gen]
theorem gen_at {n : Nat} {f : Nat → Int} {x : Nat} (h : x < n) : (gen n f).getD x 0 = f x := by simp [gen, h]
theorem gen_congr {n : Nat} {f g : Nat → Int} (h : ∀ x, x < n → f x = g x) : gen n f = gen n g := List.map_congr_left fun x hx => h x (by simpa using hx)
theorem gen_set {n k : Nat} {f : Nat → Int} {a : Int} (h : k < n) : (gen n f).set k a = gen n fun x => if x = k then a else f x := by
  refine list_ext (by simp [gen]) fun x hx => ?_
  rw [List.length_set, gen_length] at hx
  rw [getD_set (by rw [gen_length]; exact h), gen_at hx, gen_at hx]
theorem gen_self {n : Nat} {L : List Int} (h : L.length = n) : L = gen n fun x => L.getD x 0 := list_ext (by rw [gen_length, h]) fun x hx => by rw [gen_at (by omega)]
/-- The labels after i items of the order: the number of the pivot. -/
def pv (M : List (List Int)) (O : List Int) : Nat → List Int
  | 0 => List.replicate M.length (-1)
  | i + 1 => if 0 ≤ (pv M O i).getD (O.getD i 0).toNat 0 then pv M O i else gen M.length fun x => if (pv M O i).getD x 0 < 0 ∧ (x = (O.getD i 0).toNat ∨ 0 < mat M (O.getD i 0).toNat x) then (i : Int) else (pv M O i).getD x 0
theorem pv_length (M : List (List Int)) (O : List Int) : ∀ i, (pv M O i).length = M.length
  | 0 => by simp [pv]
  | i + 1 => by
    rw [pv]
    split
    · exact pv_length M O i
    · exact gen_length _ _
theorem pv_skip {M : List (List Int)} {O : List Int} {i p : Nat} (hp : O.getD i 0 = p) (h : 0 ≤ (pv M O i).getD p 0) : pv M O (i + 1) = pv M O i := by rw [pv, hp, Int.toNat_natCast, if_pos h]
theorem pv_step {M : List (List Int)} {O : List Int} {i p : Nat} (hp : O.getD i 0 = p) (h : (pv M O i).getD p 0 < 0) : pv M O (i + 1) = gen M.length fun x => if (pv M O i).getD x 0 < 0 ∧ (x = p ∨ 0 < mat M p x) then (i : Int) else (pv M O i).getD x 0 := by rw [pv, hp, Int.toNat_natCast, if_neg (by omega)]
theorem pv_r (M : List (List Int)) (O : List Int) : ∀ i x, x < M.length → -1 ≤ (pv M O i).getD x 0 ∧ (pv M O i).getD x 0 < i
  | 0, x, h => by rw [pv, getD_rep h]; simp
  | i + 1, x, h => by
    have ih := pv_r M O i x h
    rw [pv]
    split
    · omega
    · rw [gen_at h]
      split <;> omega
def fO (O : List Int) (q : Int) : Int := if q < 0 then -1 else O.getD q.toNat 0
/-- .. and the pivot itself. -/
def pw (M : List (List Int)) (O : List Int) (i : Nat) : List Int := gen M.length fun x => fO O ((pv M O i).getD x 0)
theorem pw_zero (M : List (List Int)) (O : List Int) : pw M O 0 = List.replicate M.length (-1) := by
  refine list_ext (by rw [pw, gen_length]; simp) fun x hx => ?_
  rw [pw, gen_length] at hx
  rw [pw, gen_at hx, pv, getD_rep hx]; rfl
theorem pw_at {M : List (List Int)} {O : List Int} {i x : Nat} (h : x < M.length) : (pw M O i).getD x 0 = fO O ((pv M O i).getD x 0) := gen_at h
theorem fO_neg {O : List Int} (h : ∀ k, k < O.length → 0 ≤ O.getD k 0) {q : Int} (hq : q < O.length) : fO O q < 0 ↔ q < 0 := by
  unfold fO
  split
  · simp_all
  · have := h q.toNat (by omega); omega
theorem pw_step {M : List (List Int)} {O : List Int} {i p : Nat} (ho : ∀ k, k < O.length → 0 ≤ O.getD k 0) (hi : i < O.length) (hp : O.getD i 0 = p) (h : (pv M O i).getD p 0 < 0) :
    pw M O (i + 1) = gen M.length fun x => if (pw M O i).getD x 0 < 0 ∧ (x = p ∨ 0 < mat M p x) then (p : Int) else (pw M O i).getD x 0 := by
  rw [pw, pv_step hp h]
  refine gen_congr fun x hx => ?_
  rw [gen_at hx, pw_at hx]
  have hr := pv_r M O i x hx
  have hn := fO_neg ho (q := (pv M O i).getD x 0) (by omega)
  by_cases hc : (pv M O i).getD x 0 < 0 ∧ (x = p ∨ 0 < mat M p x)
  · rw [if_pos hc, if_pos ⟨hn.2 hc.1, hc.2⟩, fO, if_neg (by omega), Int.toNat_natCast, hp]
  · rw [if_neg hc, if_neg (fun g => hc ⟨hn.1 g.1, g.2⟩)]
theorem pw_canon {M : List (List Int)} {O : List Int} (h : isOrd M.length O = true) : canon (pw M O O.length) = canon (pv M O O.length) := by
  obtain ⟨h1, h2, h3, h4⟩ := ord_t h
  have ho : ∀ k, k < O.length → 0 ≤ O.getD k 0 := fun k hk => (h3 k hk).1
  refine canon_congr (by rw [pw, gen_length, pv_length]) fun i k hi hk => ?_
  rw [pw, gen_length] at hi hk
  rw [pw_at hi, pw_at hk]
  have r1 := pv_r M O O.length i hi
  have r2 := pv_r M O O.length k hk
  have n1 := fO_neg ho (q := (pv M O O.length).getD i 0) (by omega)
  have n2 := fO_neg ho (q := (pv M O O.length).getD k 0) (by omega)
  generalize (pv M O O.length).getD i 0 = a at *
  generalize (pv M O O.length).getD k 0 = b at *
  refine ⟨fun e => ?_, fun e => by rw [e]⟩
  by_cases ha : a < 0
  · have := n1.2 ha
    have := n2.1 (by omega)
    omega
  · have hb : ¬ b < 0 := fun g => by have := n2.2 g; have := n1.1 (by omega); omega
    rw [fO, fO, if_neg ha, if_neg hb] at e
    rcases Nat.lt_trichotomy a.toNat b.toNat with g | g | g
    · exact absurd e (h4 _ _ g (by omega))
    · omega
    · exact absurd e.symm (h4 _ _ g (by omega))
open Classical in
noncomputable def piv (M : List (List Int)) (O : List Int) : List Int := if WM M ∧ isOrd M.length O = true then canon (pv M O O.length) else []
theorem piv_t {M : List (List Int)} {O : List Int} (h : WM M ∧ isOrd M.length O = true) : piv M O = canon (pv M O O.length) := by rw [piv, if_pos h]
theorem piv_f {M : List (List Int)} {O : List Int} (h : ¬ (WM M ∧ isOrd M.length O = true)) : piv M O = [] := by rw [piv, if_neg h]
theorem piv_length {M : List (List Int)} {O : List Int} (h : WM M ∧ isOrd M.length O = true) : (piv M O).length = M.length := by rw [piv_t h, canon_length, pv_length]

/-- Inside a step of the program: the first k items looked at. -/
def pwk (M : List (List Int)) (P : List Int) (p k : Nat) : List Int := gen M.length fun x => if P.getD x 0 < 0 ∧ (x = p ∨ (x < k ∧ 0 < mat M p x)) then (p : Int) else P.getD x 0
theorem pwk_zero {M : List (List Int)} {P : List Int} {p : Nat} (hl : P.length = M.length) (hp : p < M.length) (h : P.getD p 0 < 0) : P.set p p = pwk M P p 0 := by
  refine list_ext (by rw [List.length_set, pwk, gen_length, hl]) fun x hx => ?_
  rw [List.length_set] at hx
  rw [getD_set (by omega), pwk, gen_at (by omega)]
  by_cases e : x = p
  · rw [if_pos e, if_pos ⟨by rw [e]; exact h, .inl e⟩]
  · rw [if_neg e, if_neg (by rintro ⟨_, g | g⟩ <;> omega)]
theorem pwk_at {M : List (List Int)} {P : List Int} {p k x : Nat} (h : x < M.length) : (pwk M P p k).getD x 0 = if P.getD x 0 < 0 ∧ (x = p ∨ (x < k ∧ 0 < mat M p x)) then (p : Int) else P.getD x 0 := gen_at h
theorem pwk_put {M : List (List Int)} {P : List Int} {p k : Nat} (hk : k < M.length) (hw : 0 < mat M p k) (h : (pwk M P p k).getD k 0 < 0) : (pwk M P p k).set k p = pwk M P p (k + 1) := by
  rw [pwk, gen_set hk, pwk]
  refine gen_congr fun x hx => ?_
  have hkk := pwk_at (P := P) (p := p) (k := k) hk
  rw [hkk] at h
  by_cases e : x = k
  · subst e
    have hP : P.getD x 0 < 0 := by
      split at h
      · omega
      · exact h
    rw [if_pos rfl, if_pos ⟨hP, .inr ⟨by omega, hw⟩⟩]
  · rw [if_neg e]
    by_cases hc : P.getD x 0 < 0 ∧ (x = p ∨ (x < k ∧ 0 < mat M p x))
    · rw [if_pos hc, if_pos ⟨hc.1, hc.2.imp id fun g => ⟨by omega, g.2⟩⟩]
    · rw [if_neg hc, if_neg (fun g => hc ⟨g.1, g.2.imp id fun q => ⟨by omega, q.2⟩⟩)]
theorem pwk_skip {M : List (List Int)} {P : List Int} {p k : Nat} (h : ¬ (0 < mat M p k ∧ (pwk M P p k).getD k 0 < 0)) (hk : k < M.length) : pwk M P p k = pwk M P p (k + 1) := by
  refine gen_congr fun x hx => ?_
  by_cases e : x = k
  · subst e
    by_cases hc : P.getD x 0 < 0 ∧ (x = p ∨ (x < x ∧ 0 < mat M p x))
    · rw [if_pos hc, if_pos ⟨hc.1, hc.2.imp id fun g => ⟨by omega, g.2⟩⟩]
    · rw [if_neg hc]
      rw [pwk_at hx, if_neg hc] at h
      rw [if_neg (fun g => ?_)]
      rcases g.2 with g2 | g2
      · exact hc ⟨g.1, .inl g2⟩
      · exact h ⟨g2.2, g.1⟩
  · by_cases hc : P.getD x 0 < 0 ∧ (x = p ∨ (x < k ∧ 0 < mat M p x))
    · rw [if_pos hc, if_pos ⟨hc.1, hc.2.imp id fun g => ⟨by omega, g.2⟩⟩]
    · rw [if_neg hc, if_neg (fun g => hc ⟨g.1, g.2.imp id fun q => ⟨by omega, q.2⟩⟩)]
theorem pwk_all {M : List (List Int)} {P : List Int} {p : Nat} : pwk M P p M.length = gen M.length fun x => if P.getD x 0 < 0 ∧ (x = p ∨ 0 < mat M p x) then (p : Int) else P.getD x 0 := by
  refine gen_congr fun x hx => ?_
  by_cases hc : P.getD x 0 < 0 ∧ (x = p ∨ 0 < mat M p x)
  · rw [if_pos hc, if_pos ⟨hc.1, hc.2.imp id fun g => ⟨hx, g⟩⟩]
  · rw [if_neg hc, if_neg (fun g => hc ⟨g.1, g.2.imp id fun q => q.2⟩)]

set_option maxHeartbeats 8000000 in
theorem Try.implPiv_f (M : List (List Int)) (O : List Int) (hM : M.length ≤ 1048576) (hR : ∀ i, i < M.length → (mrow M i).length ≤ 1048576) (hO : O.length ≤ 1048576) (h : WM M ∧ isOrd M.length O = true) : FCall Try.prog 85 [rr M, ri O] (FlatRes M.length 1 (ints (piv M O))) := by
  obtain ⟨hw, hord⟩ := h
  obtain ⟨h1, h2, h3, h4⟩ := ord_t hord
  have ho : ∀ k, k < O.length → 0 ≤ O.getD k 0 := fun k hk => (h3 k hk).1
  have w1 := Try.implIsWM_ok M hM hR
  rw [isWM_t hw] at w1
  have w2 := Try.implIsOrder_ok M.length O hO
  rw [hord] at w2
  have hpl : ∀ i, (pw M O i).length = M.length := fun i => gen_length _ _
  have w4 := (Try.implCanon_f (pw M O O.length) (by rw [hpl]; omega) (fun e => by have := hpl O.length; rw [e] at this; simp at this; omega)).one
  rw [hpl, pw_canon hord, ← piv_t ⟨hw, hord⟩] at w4
  refine FCall.of_body Try.func85 rfl (by kernel_rfl) (by simp [Try.ntmps85]) ?_
  refine SW_of_vc Try.mixed _ _ _ (by kernel_rfl) ?_
  simp (disch := omega) only [Try.ntmps85, Try.results85, go_sem, Nat.reduceLT, Nat.reduceLeDiff, Nat.reduceEqDiff, Nat.reduceAdd, Nat.reduceSub, Nat.reduceMul, reduceIte, ↓reduceIte, reduceCtorEq, Int.reduceToNat, Int.reduceLE, Int.reduceLT, Int.reduceNeg, Int.reduceSub, Int.reduceAdd, Int.reduceMul, rr_eq]
  refine w1.callV 0 (viewL_cons_of (view_row) viewL_nil_of) ?_
  simp (disch := omega) only [Try.ntmps85, Try.results85, go_sem, Nat.reduceLT, Nat.reduceLeDiff, Nat.reduceEqDiff, Nat.reduceAdd, Nat.reduceSub, Nat.reduceMul, reduceIte, ↓reduceIte, reduceCtorEq, Int.reduceToNat, Int.reduceLE, Int.reduceLT, Int.reduceNeg, Int.reduceSub, Int.reduceAdd, Int.reduceMul, rr_eq]
  refine w2.callV 0 (viewL_cons_of (view_int) (viewL_cons_of (view_rowL (by first | rfl | simp [marks_length, canon_length] | omega)) viewL_nil_of)) ?_
  simp (disch := omega) only [Try.ntmps85, Try.results85, go_sem, Nat.reduceLT, Nat.reduceLeDiff, Nat.reduceEqDiff, Nat.reduceAdd, Nat.reduceSub, Nat.reduceMul, reduceIte, ↓reduceIte, reduceCtorEq, Int.reduceToNat, Int.reduceLE, Int.reduceLT, Int.reduceNeg, Int.reduceSub, Int.reduceAdd, Int.reduceMul, rr_eq]
  refine (Try.repeat_one M.length (-1) (by omega) (by omega)).callOne (ints_vals _) 1 (viewL_cons_of (view_own (L := [-1]) (e2 := false) rfl rfl) (viewL_cons_of view_int viewL_nil_of)) ?_
  simp (disch := omega) only [Try.ntmps85, Try.results85, go_sem, Nat.reduceLT, Nat.reduceLeDiff, Nat.reduceEqDiff, Nat.reduceAdd, Nat.reduceSub, Nat.reduceMul, reduceIte, ↓reduceIte, reduceCtorEq, Int.reduceToNat, Int.reduceLE, Int.reduceLT, Int.reduceNeg, Int.reduceSub, Int.reduceAdd, Int.reduceMul, rr_eq]
  refine LoopW.loop (fun i : Nat => ⟨ofL [(0, rr M), (5, .own 1 0 M.length M.length 1 false), (24, ri O), (25, .val (.int .i64 O.length)), (26, .val (.int .i64 i))], hp [(1, ⟨ints (pw M O i), false⟩)] 2⟩) (fun i => i ≤ O.length) (fun i => O.length - i) 0 (by omega)
    (Wk.ofH (by simp only [go_sem, ↓List.forall_mem_cons, List.not_mem_nil, false_implies, implies_true, and_true, true_and, and_self, Nat.reduceEqDiff, reduceIte, ↓reduceIte, ri_eq, Int.natCast_add, Int.cast_ofNat_Int, rr_eq]; try simp) (by intro q hq; simp at hq; subst hq; rw [pw_zero]; rfl) (Nat.le_refl _)) ?_
  intro i hi
  have hl := hpl i
  refine SW_of_vc Try.mixed _ _ _ (by kernel_rfl) ?_
  by_cases hlt : i < O.length
  case neg =>
    obtain rfl : i = O.length := by omega
    simp (disch := omega) only [Try.ntmps85, Try.results85, go_sem, Nat.reduceLT, Nat.reduceLeDiff, Nat.reduceEqDiff, Nat.reduceAdd, Nat.reduceSub, Nat.reduceMul, reduceIte, ↓reduceIte, reduceCtorEq, Int.reduceToNat, Int.reduceLE, Int.reduceLT, Int.reduceNeg, Int.reduceSub, Int.reduceAdd, Int.reduceMul, rr_eq]
    refine w4.callOne (ints_vals _) 1 (viewL_cons_of (view_own (e2 := false) rfl hl.symm) viewL_nil_of) ?_
    simp (disch := omega) only [Try.ntmps85, Try.results85, go_sem, Nat.reduceLT, Nat.reduceLeDiff, Nat.reduceEqDiff, Nat.reduceAdd, Nat.reduceSub, Nat.reduceMul, reduceIte, ↓reduceIte, reduceCtorEq, Int.reduceToNat, Int.reduceLE, Int.reduceLT, Int.reduceNeg, Int.reduceSub, Int.reduceAdd, Int.reduceMul, rr_eq]
    exact fin_ints (piv_length ⟨hw, hord⟩).symm (by rw [hp_map, hmap_cons, if_pos rfl])
  obtain ⟨p, hpp⟩ := Int.eq_ofNat_of_zero_le (h3 i hlt).1
  have hpM : p < M.length := by have := (h3 i hlt).2; omega
  have g1 := ints_get hlt
  rw [hpp] at g1
  have g2 : (ints (pw M O i))[p]? = some (.val (.int .i64 ((pw M O i).getD p 0))) := ints_get' hl hpM
  have hneg := fO_neg ho (q := (pv M O i).getD p 0) (by have := (pv_r M O i p hpM).2; omega)
  rw [← pw_at hpM] at hneg
  by_cases hs : 0 ≤ (pw M O i).getD p 0
  · have hskip : pw M O (i + 1) = pw M O i := by rw [pw, pw, pv_skip hpp (by omega)]
    generalize (pw M O i).getD p 0 = v at *
    simp (disch := omega) only [Try.ntmps85, Try.results85, go_sem, Nat.reduceLT, Nat.reduceLeDiff, Nat.reduceEqDiff, Nat.reduceAdd, Nat.reduceSub, Nat.reduceMul, reduceIte, ↓reduceIte, reduceCtorEq, Int.reduceToNat, Int.reduceLE, Int.reduceLT, Int.reduceNeg, Int.reduceSub, Int.reduceAdd, Int.reduceMul, rr_eq, g1, g2, hl]
    exact ⟨i + 1, hlt, by omega, Wk.ofH (by simp only [go_sem, ↓List.forall_mem_cons, List.not_mem_nil, false_implies, implies_true, and_true, true_and, and_self, Nat.reduceEqDiff, reduceIte, ↓reduceIte, ri_eq, Int.natCast_add, Int.cast_ofNat_Int, rr_eq]; try simp) (by simp (disch := omega) only [go_sem, ↓List.forall_mem_cons, List.not_mem_nil, false_implies, implies_true, and_true, true_and, and_self, Nat.reduceEqDiff, reduceIte, ↓reduceIte, ri_eq, Int.natCast_add, Int.cast_ofNat_Int, if_pos, if_neg, Nat.reduceAdd, List.nil_append, hskip]; try simp) (Nat.le_refl _)⟩
  · have hz := pwk_zero (M := M) hl hpM (by omega : (pw M O i).getD p 0 < 0)
    have hend := pwk_all (M := M) (P := pw M O i) (p := p)
    rw [← pw_step ho hlt hpp (hneg.1 (by omega))] at hend
    have hrp := hw.2.1 p hpM
    have hkl : ∀ k, (pwk M (pw M O i) p k).length = M.length := fun k => gen_length _ _
    generalize (pw M O i).getD p 0 = v at *
    simp (disch := omega) only [Try.ntmps85, Try.results85, go_sem, Nat.reduceLT, Nat.reduceLeDiff, Nat.reduceEqDiff, Nat.reduceAdd, Nat.reduceSub, Nat.reduceMul, reduceIte, ↓reduceIte, reduceCtorEq, Int.reduceToNat, Int.reduceLE, Int.reduceLT, Int.reduceNeg, Int.reduceSub, Int.reduceAdd, Int.reduceMul, rr_eq, g1, g2, hl, hz, rows_get, hrp]
    clear hz g2 hl
    refine LoopW.loop (fun k : Nat => ⟨ofL [(0, rr M), (5, .own 1 0 M.length M.length 1 false), (7, .val (.int .i64 p)), (24, ri O), (25, .val (.int .i64 O.length)), (26, .val (.int .i64 i)), (42, .row M.length false (ints (mrow M p))), (43, .val (.int .i64 M.length)), (44, .val (.int .i64 k))], hp [(1, ⟨ints (pwk M (pw M O i) p k), false⟩)] 2⟩) (fun k => k ≤ M.length) (fun k => M.length - k) 0 (by omega)
      (Wk.ofH (by simp only [go_sem, ↓List.forall_mem_cons, List.not_mem_nil, false_implies, implies_true, and_true, true_and, and_self, Nat.reduceEqDiff, reduceIte, ↓reduceIte, ri_eq, Int.natCast_add, Int.cast_ofNat_Int, rr_eq, hrp]; try simp) (by simp (disch := omega) only [go_sem, ↓List.forall_mem_cons, List.not_mem_nil, false_implies, implies_true, and_true, true_and, and_self, Nat.reduceEqDiff, reduceIte, ↓reduceIte, ri_eq, Int.natCast_add, Int.cast_ofNat_Int, if_pos, if_neg, Nat.reduceAdd, List.nil_append]; try simp) (Nat.le_refl _)) ?_
    intro k hk
    have hl := hkl k
    refine SW_of_vc Try.mixed _ _ _ (by kernel_rfl) ?_
    by_cases hlk : k < M.length
    · have g3 : (ints (mrow M p))[k]? = some (.val (.int .i64 (mat M p k))) := ints_get' hrp hlk
      have g4 : (ints (pwk M (pw M O i) p k))[k]? = some (.val (.int .i64 ((pwk M (pw M O i) p k).getD k 0))) := ints_get' hl hlk
      by_cases e1 : 0 < mat M p k
      · by_cases e2 : (pwk M (pw M O i) p k).getD k 0 < 0
        · have hput := pwk_put hlk e1 e2
          generalize (pwk M (pw M O i) p k).getD k 0 = u at *
          generalize mat M p k = mm at *
          simp (disch := omega) only [Try.ntmps85, Try.results85, go_sem, Nat.reduceLT, Nat.reduceLeDiff, Nat.reduceEqDiff, Nat.reduceAdd, Nat.reduceSub, Nat.reduceMul, reduceIte, ↓reduceIte, reduceCtorEq, Int.reduceToNat, Int.reduceLE, Int.reduceLT, Int.reduceNeg, Int.reduceSub, Int.reduceAdd, Int.reduceMul, g3, g4, hl, hput]
          exact ⟨k + 1, hlk, by omega, Wk.ofH (by simp only [go_sem, ↓List.forall_mem_cons, List.not_mem_nil, false_implies, implies_true, and_true, true_and, and_self, Nat.reduceEqDiff, reduceIte, ↓reduceIte, ri_eq, Int.natCast_add, Int.cast_ofNat_Int, rr_eq]; try simp) (by simp (disch := omega) only [go_sem, ↓List.forall_mem_cons, List.not_mem_nil, false_implies, implies_true, and_true, true_and, and_self, Nat.reduceEqDiff, reduceIte, ↓reduceIte, ri_eq, Int.natCast_add, Int.cast_ofNat_Int, if_pos, if_neg, Nat.reduceAdd, List.nil_append]; try simp) (Nat.le_refl _)⟩
        · have hsk := pwk_skip (fun g => e2 g.2) hlk
          generalize (pwk M (pw M O i) p k).getD k 0 = u at *
          generalize mat M p k = mm at *
          simp (disch := omega) only [Try.ntmps85, Try.results85, go_sem, Nat.reduceLT, Nat.reduceLeDiff, Nat.reduceEqDiff, Nat.reduceAdd, Nat.reduceSub, Nat.reduceMul, reduceIte, ↓reduceIte, reduceCtorEq, Int.reduceToNat, Int.reduceLE, Int.reduceLT, Int.reduceNeg, Int.reduceSub, Int.reduceAdd, Int.reduceMul, g3, g4, hl]
          exact ⟨k + 1, hlk, by omega, Wk.ofH (by simp only [go_sem, ↓List.forall_mem_cons, List.not_mem_nil, false_implies, implies_true, and_true, true_and, and_self, Nat.reduceEqDiff, reduceIte, ↓reduceIte, ri_eq, Int.natCast_add, Int.cast_ofNat_Int, rr_eq]; try simp) (by simp (disch := omega) only [go_sem, ↓List.forall_mem_cons, List.not_mem_nil, false_implies, implies_true, and_true, true_and, and_self, Nat.reduceEqDiff, reduceIte, ↓reduceIte, ri_eq, Int.natCast_add, Int.cast_ofNat_Int, if_pos, if_neg, Nat.reduceAdd, List.nil_append, ← hsk]; try simp) (Nat.le_refl _)⟩
      · have hsk := pwk_skip (P := pw M O i) (fun g => e1 g.1) hlk
        generalize mat M p k = mm at *
        simp (disch := omega) only [Try.ntmps85, Try.results85, go_sem, Nat.reduceLT, Nat.reduceLeDiff, Nat.reduceEqDiff, Nat.reduceAdd, Nat.reduceSub, Nat.reduceMul, reduceIte, ↓reduceIte, reduceCtorEq, Int.reduceToNat, Int.reduceLE, Int.reduceLT, Int.reduceNeg, Int.reduceSub, Int.reduceAdd, Int.reduceMul, g3, hl]
        exact ⟨k + 1, hlk, by omega, Wk.ofH (by simp only [go_sem, ↓List.forall_mem_cons, List.not_mem_nil, false_implies, implies_true, and_true, true_and, and_self, Nat.reduceEqDiff, reduceIte, ↓reduceIte, ri_eq, Int.natCast_add, Int.cast_ofNat_Int, rr_eq]; try simp) (by simp (disch := omega) only [go_sem, ↓List.forall_mem_cons, List.not_mem_nil, false_implies, implies_true, and_true, true_and, and_self, Nat.reduceEqDiff, reduceIte, ↓reduceIte, ri_eq, Int.natCast_add, Int.cast_ofNat_Int, if_pos, if_neg, Nat.reduceAdd, List.nil_append, ← hsk]; try simp) (Nat.le_refl _)⟩
    · obtain rfl : k = M.length := by omega
      rw [hend]
      simp (disch := omega) only [Try.ntmps85, Try.results85, go_sem, Nat.reduceLT, Nat.reduceLeDiff, Nat.reduceEqDiff, Nat.reduceAdd, Nat.reduceSub, Nat.reduceMul, reduceIte, ↓reduceIte, reduceCtorEq, Int.reduceToNat, Int.reduceLE, Int.reduceLT, Int.reduceNeg, Int.reduceSub, Int.reduceAdd, Int.reduceMul]
      exact ⟨i + 1, hlt, by omega, Wk.ofH (by simp only [go_sem, ↓List.forall_mem_cons, List.not_mem_nil, false_implies, implies_true, and_true, true_and, and_self, Nat.reduceEqDiff, reduceIte, ↓reduceIte, ri_eq, Int.natCast_add, Int.cast_ofNat_Int, rr_eq]; try simp) (by simp (disch := omega) only [go_sem, ↓List.forall_mem_cons, List.not_mem_nil, false_implies, implies_true, and_true, true_and, and_self, Nat.reduceEqDiff, reduceIte, ↓reduceIte, ri_eq, Int.natCast_add, Int.cast_ofNat_Int, if_pos, if_neg, Nat.reduceAdd, List.nil_append]; try simp) (Nat.le_refl _)⟩
end Go.Sh
