/-
  Contracts: constraints, copied and compared.
-/
import Derived.Test.YtehimkdkflnkbaaD1
import Derived.Test.YtehimkdkflnkbaaLift
namespace Go.Sh
set_option linter.unusedSimpArgs false
set_option linter.unusedVariables false
open Go Go.Proofs

def dc : Con := (0, 0, false)
def cg (C : List Con) (k : Nat) : Con := C.getD k dc
theorem cons_length (C : List Con) : (cons C).length = C.length * 3 := by
  induction C with
  | nil => rfl
  | cons c C ih =>
    have e : cons (c :: C) = con3 c ++ cons C := rfl
    rw [e, List.length_append, ih]
    simp [con3]; omega
theorem cons_drop : ∀ (C : List Con) (k : Nat), (cons C).drop (k * 3) = cons (C.drop k)
  | C, 0 => by simp
  | [], k + 1 => by simp [cons]
  | c :: C, k + 1 => by
    have e : cons (c :: C) = con3 c ++ cons C := rfl
    have e2 : (k + 1) * 3 = k * 3 + 1 + 1 + 1 := by omega
    rw [e, e2]
    show (cons C).drop (k * 3) = cons (C.drop k)
    exact cons_drop C k
theorem cons_load {C : List Con} {k : Nat} (h : k < C.length) : ((cons C).drop (k * 3)).take 3 = [.val (.int .i64 (cg C k).1), .val (.int .i64 (cg C k).2.1), .val (.bool (cg C k).2.2)] := by
  rw [cons_drop, List.drop_eq_getElem_cons h]
  have e : cg C k = C[k] := by simp [cg, h]
  rw [e]
  rfl
theorem cons_at {C : List Con} {k i : Nat} (h : k < C.length) (hi : i < 3) : (cons C)[k * 3 + i]? = (con3 (cg C k))[i]? := by
  have := cons_load h
  have h2 : (((cons C).drop (k * 3)).take 3)[i]? = (con3 (cg C k))[i]? := by rw [this]; rfl
  rw [List.getElem?_take, if_pos hi, List.getElem?_drop] at h2
  exact h2
theorem cons_at0 {C : List Con} {k : Nat} (h : k < C.length) : (cons C)[k * 3]? = some (.val (.int .i64 (cg C k).1)) := cons_at (i := 0) h (by omega)
theorem cons_at1 {C : List Con} {k : Nat} (h : k < C.length) : (cons C)[k * 3 + 1]? = some (.val (.int .i64 (cg C k).2.1)) := cons_at h (by omega)
theorem cons_at2 {C : List Con} {k : Nat} (h : k < C.length) : (cons C)[k * 3 + 2]? = some (.val (.bool (cg C k).2.2)) := cons_at h (by omega)
theorem con_ex (C : List Con) (k : Nat) : ∃ a b s, cg C k = (a, b, s) := ⟨_, _, _, rfl⟩
theorem cons_of {C : List Con} {k : Nat} {a b : Int} {s : Bool} (h : k < C.length) (e : cg C k = (a, b, s)) : (cons C)[k * 3]? = some (.val (.int .i64 a)) ∧ (cons C)[k * 3 + 1]? = some (.val (.int .i64 b)) ∧ (cons C)[k * 3 + 2]? = some (.val (.bool s)) ∧
    ((cons C).drop (k * 3)).take 3 = [.val (.int .i64 a), .val (.int .i64 b), .val (.bool s)] := by
  have h0 := cons_at0 h
  have h1 := cons_at1 h
  have h2 := cons_at2 h
  have h3 := cons_load h
  rw [e] at h0 h1 h2 h3
  exact ⟨h0, h1, h2, h3⟩
theorem cons_vals (C : List Con) : (cons C).all isVal = true := by
  induction C with
  | nil => rfl
  | cons c C ih =>
    have e : cons (c :: C) = con3 c ++ cons C := rfl
    rw [e, List.all_append, ih]; rfl
theorem cons_append (A B : List Con) : cons A ++ cons B = cons (A ++ B) := by simp [cons]
theorem cons_splice : ∀ {C : List Con} {k : Nat} {a b : Int} {s : Bool}, k < C.length → splice (cons C) (k * 3) [.val (.int .i64 a), .val (.int .i64 b), .val (.bool s)] = cons (C.set k (a, b, s))
  | [], k, a, b, s, h => by simp at h
  | c :: C, 0, a, b, s, _ => rfl
  | c :: C, k + 1, a, b, s, h => by
    have ih := cons_splice (C := C) (k := k) (a := a) (b := b) (s := s) (by simpa using h)
    have e : cons (c :: C) = .val (.int .i64 c.1) :: .val (.int .i64 c.2.1) :: .val (.bool c.2.2) :: cons C := rfl
    have e2 : cons ((c :: C).set (k + 1) (a, b, s)) = .val (.int .i64 c.1) :: .val (.int .i64 c.2.1) :: .val (.bool c.2.2) :: cons (C.set k (a, b, s)) := rfl
    have e3 : (k + 1) * 3 = k * 3 + 1 + 1 + 1 := by omega
    rw [e2, ← ih, e, e3]
    simp only [splice, List.set_cons_succ]
theorem cons_set3 {C : List Con} {k : Nat} {a b : Int} {s : Bool} (h : k < C.length) : (((cons C).set (k * 3) (.val (.int .i64 a))).set (k * 3 + 1) (.val (.int .i64 b))).set (k * 3 + 1 + 1) (.val (.bool s)) = cons (C.set k (a, b, s)) := by
  have := cons_splice (a := a) (b := b) (s := s) h
  simpa only [splice] using this
theorem rep_cons (n : Nat) : rep [.val (.int .i64 0), .val (.int .i64 0), .val (.bool false)] (n * 3) = cons (List.replicate n dc) := by
  apply List.ext_getElem?
  intro i
  by_cases h : i < n * 3
  · have h3 : i / 3 < n := by omega
    have e : i = i / 3 * 3 + i % 3 := by omega
    have h4 : (cons (List.replicate n dc))[i]? = (con3 dc)[i % 3]? := by
      conv => lhs; rw [e]
      rw [cons_at (by simpa using h3) (by omega)]
      congr 2
      simp [cg, h3]
    rw [h4]
    simp only [rep, List.getElem?_map]
    rw [List.getElem?_range h]
    have : i % 3 < 3 := by omega
    simp only [Option.map_some, List.length_cons, List.length_nil]
    match i % 3, this with
    | 0, _ => rfl
    | 1, _ => rfl
    | 2, _ => rfl
  · rw [List.getElem?_eq_none (by simp [rep]; omega), List.getElem?_eq_none (by rw [cons_length]; simp; omega)]

def fillG {α : Type} (z : α) (L : List α) (k : Nat) : List α := L.take k ++ List.replicate (L.length - k) z
theorem fillG_zero {α : Type} (z : α) (L : List α) : fillG z L 0 = List.replicate L.length z := by simp [fillG]
theorem fillG_length {α : Type} (z : α) (L : List α) (k : Nat) (h : k ≤ L.length) : (fillG z L k).length = L.length := by simp [fillG]; omega
theorem fillG_set {α : Type} (z d : α) (L : List α) (k : Nat) (h : k < L.length) : (fillG z L k).set k (L.getD k d) = fillG z L (k + 1) := by
  apply List.ext_getElem?
  intro i
  simp [fillG, List.getElem?_set, List.getElem?_append, List.getElem?_take, List.getElem?_replicate]
  grind
theorem fillG_all {α : Type} (z : α) (L : List α) : fillG z L L.length = L := by simp [fillG]

def sc (c : Con) : SV := .agg [.val (.int .i64 c.1), .val (.int .i64 c.2.1), .val (.bool c.2.2)]
theorem view_con {H : Heap} {f : Nat} {k1 k2 : IntKind} {a b : Int} {s : Bool} : view H (f + 1) (.agg [.val (.int k1 a), .val (.int k2 b), .val (.bool s)]) = some (.agg [.val (.int k1 a), .val (.int k2 b), .val (.bool s)]) :=
  view_agg (viewL_cons_of view_int (viewL_cons_of view_int (viewL_cons_of view_bool viewL_nil_of)))

theorem Try.toConstraint_ok (a b : Int) (s : Bool) : PCall Try.prog 69 [.agg [.val (.int .i64 a), .val (.int .i64 b), .val (.bool s)]] (.agg [.val (.int .i64 a), .val (.int .i64 b), .val (.bool s)]) := by
  refine FCall.pcall (R := fun r _ => r = .agg [.val (.int .i64 a), .val (.int .i64 b), .val (.bool s)]) ?_ 1 (by rintro r H rfl; exact view_con) 
  refine FCall.of_body Try.func69 rfl (by kernel_rfl) (by simp [Try.ntmps69]) ?_
  refine SW_of_vc Try.mixed _ _ _ (by kernel_rfl) ?_
  simp (disch := omega) only [Try.ntmps69, Try.results69, go_sem, Nat.reduceLT, Nat.reduceLeDiff, Nat.reduceEqDiff, Nat.reduceAdd, Nat.reduceSub, Nat.reduceMul, reduceIte, ↓reduceIte, reduceCtorEq, Int.reduceToNat, Int.reduceLE, Int.reduceLT, Int.reduceNeg, Int.reduceSub, Int.reduceAdd, Int.reduceMul]
  exact Fin.agg rfl rfl

theorem Try.eqConstraint_ok (a b : Int) (s : Bool) (c d : Int) (t : Bool) : PCall Try.prog 75 [.agg [.val (.int .i64 a), .val (.int .i64 b), .val (.bool s)], .agg [.val (.int .i64 c), .val (.int .i64 d), .val (.bool t)]] (.val (.bool (decide ((a, b, s) = (c, d, t))))) := by
  refine FCall.pcall (R := fun r _ => r = .val (.bool (decide ((a, b, s) = (c, d, t))))) ?_ 0 (by rintro r H rfl; exact view_bool)
  refine FCall.of_body Try.func75 rfl (by kernel_rfl) (by simp [Try.ntmps75]) ?_
  refine SW_of_vc Try.mixed _ _ _ (by kernel_rfl) ?_
  by_cases h1 : a = c
  · by_cases h2 : b = d
    · cases s <;> cases t <;> simp (disch := omega) only [Try.ntmps75, Try.results75, go_sem, Nat.reduceLT, Nat.reduceLeDiff, Nat.reduceEqDiff, Nat.reduceAdd, Nat.reduceSub, Nat.reduceMul, reduceIte, ↓reduceIte, reduceCtorEq, Int.reduceToNat, Int.reduceLE, Int.reduceLT, Int.reduceNeg, Int.reduceSub, Int.reduceAdd, Int.reduceMul] <;> exact Fin.val (by simp [h1, h2])
    · simp (disch := omega) only [Try.ntmps75, Try.results75, go_sem, Nat.reduceLT, Nat.reduceLeDiff, Nat.reduceEqDiff, Nat.reduceAdd, Nat.reduceSub, Nat.reduceMul, reduceIte, ↓reduceIte, reduceCtorEq, Int.reduceToNat, Int.reduceLE, Int.reduceLT, Int.reduceNeg, Int.reduceSub, Int.reduceAdd, Int.reduceMul]
      exact Fin.val (by simp [h2])
  · simp (disch := omega) only [Try.ntmps75, Try.results75, go_sem, Nat.reduceLT, Nat.reduceLeDiff, Nat.reduceEqDiff, Nat.reduceAdd, Nat.reduceSub, Nat.reduceMul, reduceIte, ↓reduceIte, reduceCtorEq, Int.reduceToNat, Int.reduceLE, Int.reduceLT, Int.reduceNeg, Int.reduceSub, Int.reduceAdd, Int.reduceMul]
    exact Fin.val (by simp [h1])

set_option maxHeartbeats 1000000 in
theorem Try.toConstraintS_f (C : List Con) (hC : C.length ≤ 1048576) : FCall Try.prog 27 [rc C] (FlatRes C.length 3 (cons C)) := by
  refine FCall.of_body Try.func27 rfl (by kernel_rfl) (by simp [Try.ntmps27]) ?_
  refine SW_of_vc Try.mixed _ _ _ (by kernel_rfl) ?_
  simp (disch := omega) only [Try.ntmps27, Try.results27, go_sem, Nat.reduceLT, Nat.reduceLeDiff, Nat.reduceEqDiff, Nat.reduceAdd, Nat.reduceSub, Nat.reduceMul, reduceIte, ↓reduceIte, reduceCtorEq, Int.reduceToNat, Int.reduceLE, Int.reduceLT, Int.reduceNeg, Int.reduceSub, Int.reduceAdd, Int.reduceMul, rc]
  refine LoopW.loop (fun k : Nat => ⟨ofL [(0, rc C), (3, .own 0 0 C.length C.length 3 true), (4, .val (.int .i64 k))], hp [(0, ⟨cons (fillG dc C k), true⟩)] 1⟩) (fun k => k ≤ C.length) (fun k => C.length - k) 0 (by omega)
    (Wk.of (by simp only [go_sem, ↓List.forall_mem_cons, List.not_mem_nil, false_implies, implies_true, and_true, true_and, and_self, Nat.reduceEqDiff, reduceIte, ↓reduceIte, ri_eq, Int.natCast_add, Int.cast_ofNat_Int, rc]; try simp) (by simp only [fillG_zero, rep_cons])) ?_
  intro k hk
  have hf := fillG_length dc C k hk
  have hl := cons_length (fillG dc C k)
  have hl2 := cons_length C
  refine SW_of_vc Try.mixed _ _ _ (by kernel_rfl) ?_
  by_cases hlt : k < C.length
  · simp (disch := omega) only [Try.ntmps27, Try.results27, go_sem, Nat.reduceLT, Nat.reduceLeDiff, Nat.reduceEqDiff, Nat.reduceAdd, Nat.reduceSub, Nat.reduceMul, reduceIte, ↓reduceIte, reduceCtorEq, Int.reduceToNat, Int.reduceLE, Int.reduceLT, Int.reduceNeg, Int.reduceSub, Int.reduceAdd, Int.reduceMul, rc, cons_load]
    refine (Try.toConstraint_ok _ _ _).callV 1 (viewL_cons_of (view_con) viewL_nil_of) ?_
    simp (disch := omega) only [Try.ntmps27, Try.results27, go_sem, Nat.reduceLT, Nat.reduceLeDiff, Nat.reduceEqDiff, Nat.reduceAdd, Nat.reduceSub, Nat.reduceMul, reduceIte, ↓reduceIte, reduceCtorEq, Int.reduceToNat, Int.reduceLE, Int.reduceLT, Int.reduceNeg, Int.reduceSub, Int.reduceAdd, Int.reduceMul, rc, cons_set3, hl, hf]
    refine ⟨k + 1, by omega, by omega, Wk.of (by simp only [go_sem, ↓List.forall_mem_cons, List.not_mem_nil, false_implies, implies_true, and_true, true_and, and_self, Nat.reduceEqDiff, reduceIte, ↓reduceIte, ri_eq, Int.natCast_add, Int.cast_ofNat_Int, rc]; try simp) ?_⟩
    have := fillG_set dc dc C k hlt
    rw [← this]; rfl
  · simp (disch := omega) only [Try.ntmps27, Try.results27, go_sem, Nat.reduceLT, Nat.reduceLeDiff, Nat.reduceEqDiff, Nat.reduceAdd, Nat.reduceSub, Nat.reduceMul, reduceIte, ↓reduceIte, reduceCtorEq, Int.reduceToNat, Int.reduceLE, Int.reduceLT, Int.reduceNeg, Int.reduceSub, Int.reduceAdd, Int.reduceMul, rc]
    obtain rfl : k = C.length := by omega
    rw [fillG_all]
    exact flat_fin hl2 (cons_vals C) (by rw [hp_map, hmap_cons, if_pos rfl])

theorem flat_viewC {C : List Con} {n : Nat} {r : SV} {H : Heap} (h : FlatRes n 3 (cons C) r H) : view H 2 r = some (rc C) := by
  have hl := h.length
  rw [cons_length] at hl
  have hn : C.length = n := by omega
  obtain ⟨b, off, cap, ex, blk, rfl, h1, h2, h3, h4⟩ := h
  have hv : ∀ {cs : List SV} {f : Nat}, cs.all isVal = true → (∀ v, SV.val v ∈ cs → viewV v = .val v) → viewL H f cs = some cs := by
    intro cs f
    induction cs with
    | nil => intro _ _; exact viewL_nil_of
    | cons s cs ih =>
      intro ha hb
      simp only [List.all_cons, Bool.and_eq_true] at ha
      obtain ⟨v, rfl⟩ := isVal_of ha.1
      refine viewL_cons_of ?_ (ih ha.2 (fun v hv => hb v (by simp [hv])))
      simp only [view, hb v (by simp)]
  have hc : ∀ v, SV.val v ∈ cons C → viewV v = .val v := by
    intro v hv
    obtain ⟨i, hi⟩ := List.mem_iff_getElem?.1 hv
    obtain ⟨c, _, g2⟩ := cons_get C i _ hi
    have h3 : i % 3 < 3 := by omega
    match i % 3, h3, g2 with
    | 0, _, g2 => simp [con3] at g2; rw [← g2]; rfl
    | 1, _, g2 => simp [con3] at g2; rw [← g2]; rfl
    | 2, _, g2 => simp [con3] at g2; rw [← g2]; rfl
  simp only [view, h1, h3, if_true, h2, hv h4 hc, rc, hn]
theorem Try.toConstraintS_ok (C : List Con) (hC : C.length ≤ 1048576) : PCall Try.prog 27 [rc C] (rc C) := (Try.toConstraintS_f C hC).pcall 2 (fun _ _ h => flat_viewC h)

theorem cg_take_succ {A B : List Con} {k : Nat} (hA : k < A.length) (hB : k < B.length) (h : A.take k = B.take k) (e : cg A k = cg B k) : A.take (k + 1) = B.take (k + 1) := by
  rw [List.take_succ_eq_append_getElem hA, List.take_succ_eq_append_getElem hB, h]
  simp [cg, hA, hB] at e
  rw [e]

set_option maxHeartbeats 1000000 in
theorem Try.eqConstraintS_ok (A B : List Con) (hA : A.length ≤ 1048576) (hB : B.length ≤ 1048576) : PCall Try.prog 29 [rc A, rc B] (.val (.bool (decide (A = B)))) := by
  refine FCall.pcall (R := fun r _ => r = .val (.bool (decide (A = B)))) ?_ 0 (by rintro r H rfl; exact view_bool)
  refine FCall.of_body Try.func29 rfl (by kernel_rfl) (by simp [Try.ntmps29]) ?_
  refine SW_of_vc Try.mixed _ _ _ (by kernel_rfl) ?_
  have lA := cons_length A
  have lB := cons_length B
  by_cases hl : A.length = B.length
  · simp (disch := omega) only [Try.ntmps29, Try.results29, go_sem, Nat.reduceLT, Nat.reduceLeDiff, Nat.reduceEqDiff, Nat.reduceAdd, Nat.reduceSub, Nat.reduceMul, reduceIte, ↓reduceIte, reduceCtorEq, Int.reduceToNat, Int.reduceLE, Int.reduceLT, Int.reduceNeg, Int.reduceSub, Int.reduceAdd, Int.reduceMul, rc]
    refine LoopW.loop (fun k : Nat => ⟨ofL [(0, rc A), (1, rc B), (5, .val (.int .i64 k))], hp [] 0⟩) (fun k => k ≤ A.length ∧ A.take k = B.take k) (fun k => A.length - k) 0 ⟨by omega, by simp⟩ (Wk.of (by simp only [go_sem, ↓List.forall_mem_cons, List.not_mem_nil, false_implies, implies_true, and_true, true_and, and_self, Nat.reduceEqDiff, reduceIte, ↓reduceIte, ri_eq, Int.natCast_add, Int.cast_ofNat_Int, rc]; try simp) rfl) ?_
    rintro k ⟨hk, hkk⟩
    refine SW_of_vc Try.mixed _ _ _ (by kernel_rfl) ?_
    by_cases hlt : k < A.length
    · simp (disch := omega) only [Try.ntmps29, Try.results29, go_sem, Nat.reduceLT, Nat.reduceLeDiff, Nat.reduceEqDiff, Nat.reduceAdd, Nat.reduceSub, Nat.reduceMul, reduceIte, ↓reduceIte, reduceCtorEq, Int.reduceToNat, Int.reduceLE, Int.reduceLT, Int.reduceNeg, Int.reduceSub, Int.reduceAdd, Int.reduceMul, rc, cons_load]
      refine (Try.eqConstraint_ok _ _ _ _ _ _).callDV 1 (viewL_cons_of (view_con) (viewL_cons_of (view_con) viewL_nil_of)) ?_
      by_cases he : cg A k = cg B k
      · have he' : decide (((cg A k).1, (cg A k).2.1, (cg A k).2.2) = ((cg B k).1, (cg B k).2.1, (cg B k).2.2)) = true := by simp [he]
        rw [he']
        simp (disch := omega) only [Try.ntmps29, Try.results29, go_sem, Nat.reduceLT, Nat.reduceLeDiff, Nat.reduceEqDiff, Nat.reduceAdd, Nat.reduceSub, Nat.reduceMul, reduceIte, ↓reduceIte, reduceCtorEq, Int.reduceToNat, Int.reduceLE, Int.reduceLT, Int.reduceNeg, Int.reduceSub, Int.reduceAdd, Int.reduceMul]
        exact ⟨k + 1, ⟨by omega, cg_take_succ hlt (by omega) hkk he⟩, by omega, Wk.of (by simp only [go_sem, ↓List.forall_mem_cons, List.not_mem_nil, false_implies, implies_true, and_true, true_and, and_self, Nat.reduceEqDiff, reduceIte, ↓reduceIte, ri_eq, Int.natCast_add, Int.cast_ofNat_Int, rc]; try simp) rfl⟩
      · have he' : decide (((cg A k).1, (cg A k).2.1, (cg A k).2.2) = ((cg B k).1, (cg B k).2.1, (cg B k).2.2)) = false := decide_eq_false (fun e => he e)
        rw [he']
        simp (disch := omega) only [Try.ntmps29, Try.results29, go_sem, Nat.reduceLT, Nat.reduceLeDiff, Nat.reduceEqDiff, Nat.reduceAdd, Nat.reduceSub, Nat.reduceMul, reduceIte, ↓reduceIte, reduceCtorEq, Int.reduceToNat, Int.reduceLE, Int.reduceLT, Int.reduceNeg, Int.reduceSub, Int.reduceAdd, Int.reduceMul]
        refine Fin.val ?_
        have : A ≠ B := fun e => he (by rw [e])
        simp [this]
    · simp (disch := omega) only [Try.ntmps29, Try.results29, go_sem, Nat.reduceLT, Nat.reduceLeDiff, Nat.reduceEqDiff, Nat.reduceAdd, Nat.reduceSub, Nat.reduceMul, reduceIte, ↓reduceIte, reduceCtorEq, Int.reduceToNat, Int.reduceLE, Int.reduceLT, Int.reduceNeg, Int.reduceSub, Int.reduceAdd, Int.reduceMul, rc]
      refine Fin.val ?_
      have h1 : A.take k = A := List.take_of_length_le (by omega)
      have h2 : B.take k = B := List.take_of_length_le (by omega)
      rw [h1, h2] at hkk
      simp [hkk]
  · simp (disch := omega) only [Try.ntmps29, Try.results29, go_sem, Nat.reduceLT, Nat.reduceLeDiff, Nat.reduceEqDiff, Nat.reduceAdd, Nat.reduceSub, Nat.reduceMul, reduceIte, ↓reduceIte, reduceCtorEq, Int.reduceToNat, Int.reduceLE, Int.reduceLT, Int.reduceNeg, Int.reduceSub, Int.reduceAdd, Int.reduceMul, rc]
    refine Fin.val ?_
    have : A ≠ B := fun e => hl (by rw [e])
    simp [this]

theorem Try.szConstraintS_ok (C : List Con) (l : Int) (hC : C.length ≤ 9223372036854775807) (h0 : 0 ≤ l) (h1 : l ≤ 1048576) : PCall Try.prog 25 [rc C, .val (.int .i64 l)] (.val (.int .i64 (if l < C.length then -1 else l - C.length))) := by
  refine FCall.pcall (R := fun r _ => r = .val (.int .i64 (if l < C.length then -1 else l - C.length))) ?_ 0 (by rintro r H rfl; exact view_int)
  refine FCall.of_body Try.func25 rfl (by kernel_rfl) (by simp [Try.ntmps25]) ?_
  refine SW_of_vc Try.mixed _ _ _ (by kernel_rfl) ?_
  by_cases hl : l < C.length
  · simp (disch := omega) only [Try.ntmps25, Try.results25, go_sem, Nat.reduceLT, Nat.reduceLeDiff, Nat.reduceEqDiff, Nat.reduceAdd, Nat.reduceSub, Nat.reduceMul, reduceIte, ↓reduceIte, reduceCtorEq, Int.reduceToNat, Int.reduceLE, Int.reduceLT, Int.reduceNeg, Int.reduceSub, Int.reduceAdd, Int.reduceMul, rc]
    exact Fin.val rfl
  · simp (disch := omega) only [Try.ntmps25, Try.results25, go_sem, Nat.reduceLT, Nat.reduceLeDiff, Nat.reduceEqDiff, Nat.reduceAdd, Nat.reduceSub, Nat.reduceMul, reduceIte, ↓reduceIte, reduceCtorEq, Int.reduceToNat, Int.reduceLE, Int.reduceLT, Int.reduceNeg, Int.reduceSub, Int.reduceAdd, Int.reduceMul, rc]
    exact Fin.val rfl
end Go.Sh
