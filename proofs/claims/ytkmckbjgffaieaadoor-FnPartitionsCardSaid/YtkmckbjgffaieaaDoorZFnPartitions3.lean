/-
  Texts put together: G1, G2, S1, S2, S3, R1, DA5, PE1, PT2, J2, J3, T1, M3, P1, G3, BA1, S4, BA2, PT1, ST1, Shelf. What each proves stands at its own head, with its conditions.
-/
import Derived.Test.YtkmckbjgffaieaaDoorZFnPartitions2
import Derived.Lib.ItoaNum
import Derived.Lib.Join
import Derived.Laws.Strings2
import Derived.Shelf.Strings.OnBuilder
import Derived.Shelf.Strconv.Itoa0
import Derived.Shelf.Strconv.Itoa1
import Derived.Shelf.LaysM
import Derived.Shelf.Strconv.Itoa2
import Derived.Shelf.Strconv.Itoa3
import Derived.Shelf.Strings.Search1
import Derived.Shelf.Strings.Search2
import Derived.Shelf.Strings.Search3
import Derived.Shelf.Strings.Cut
import Derived.Shelf.Strings.Count
import Derived.Shelf.Strings.Shaped
import Derived.Shelf.Strings.Split
import Derived.Shelf.Strings.SplitShaped
import Derived.Test.YtkmckbjgffaieaaDoorProg

/-
  Contracts: constraints, copied and compared.
-/
namespace Go.Sh
set_option linter.unusedSimpArgs false
set_option linter.unusedVariables false
open Go Go.Proofs

def dc : Con := (0, 0, false)
def cg (C : List Con) (k : Nat) : Con := C.getD k dc
theorem cons_length (C : List Con) : (cons C).length = C.length * 3 := by
  induction C with
  | nil => rfl
  | cons c C ih =>
    have e : cons (c :: C) = con3 c ++ cons C := rfl
    rw [e, List.length_append, ih]
    simp [con3]; omega
theorem cons_drop : ∀ (C : List Con) (k : Nat), (cons C).drop (k * 3) = cons (C.drop k)
  | C, 0 => by simp
  | [], k + 1 => by simp [cons]
  | c :: C, k + 1 => by
    have e : cons (c :: C) = con3 c ++ cons C := rfl
    have e2 : (k + 1) * 3 = k * 3 + 1 + 1 + 1 := by omega
    rw [e, e2]
    show (cons C).drop (k * 3) = cons (C.drop k)
    exact cons_drop C k
theorem cons_load {C : List Con} {k : Nat} (h : k < C.length) : ((cons C).drop (k * 3)).take 3 = [.val (.int .i64 (cg C k).1), .val (.int .i64 (cg C k).2.1), .val (.bool (cg C k).2.2)] := by
  rw [cons_drop, List.drop_eq_getElem_cons h]
  have e : cg C k = C[k] := by simp [cg, h]
  rw [e]
  rfl
theorem cons_at {C : List Con} {k i : Nat} (h : k < C.length) (hi : i < 3) : (cons C)[k * 3 + i]? = (con3 (cg C k))[i]? := by
  have := cons_load h
  have h2 : (((cons C).drop (k * 3)).take 3)[i]? = (con3 (cg C k))[i]? := by rw [this]; rfl
  rw [List.getElem?_take, if_pos hi, List.getElem?_drop] at h2
  exact h2
theorem cons_at0 {C : List Con} {k : Nat} (h : k < C.length) : (cons C)[k * 3]? = some (.val (.int .i64 (cg C k).1)) := cons_at (i := 0) h (by omega)
theorem cons_at1 {C : List Con} {k : Nat} (h : k < C.length) : (cons C)[k * 3 + 1]? = some (.val (.int .i64 (cg C k).2.1)) := cons_at h (by omega)
theorem cons_at2 {C : List Con} {k : Nat} (h : k < C.length) : (cons C)[k * 3 + 2]? = some (.val (.bool (cg C k).2.2)) := cons_at h (by omega)
theorem con_ex (C : List Con) (k : Nat) : ∃ a b s, cg C k = (a, b, s) := ⟨_, _, _, rfl⟩
theorem cons_of {C : List Con} {k : Nat} {a b : Int} {s : Bool} (h : k < C.length) (e : cg C k = (a, b, s)) : (cons C)[k * 3]? = some (.val (.int .i64 a)) ∧ (cons C)[k * 3 + 1]? = some (.val (.int .i64 b)) ∧ (cons C)[k * 3 + 2]? = some (.val (.bool s)) ∧
    ((cons C).drop (k * 3)).take 3 = [.val (.int .i64 a), .val (.int .i64 b), .val (.bool s)] := by
  have h0 := cons_at0 h
  have h1 := cons_at1 h
  have h2 := cons_at2 h
  have h3 := cons_load h
  rw [e] at h0 h1 h2 h3
  exact ⟨h0, h1, h2, h3⟩
theorem cons_vals (C : List Con) : (cons C).all isVal = true := by
  induction C with
  | nil => rfl
  | cons c C ih =>
    have e : cons (c :: C) = con3 c ++ cons C := rfl
    rw [e, List.all_append, ih]; rfl
theorem cons_append (A B : List Con) : cons A ++ cons B = cons (A ++ B) := by simp [cons]
theorem cons_splice : ∀ {C : List Con} {k : Nat} {a b : Int} {s : Bool}, k < C.length → splice (cons C) (k * 3) [.val (.int .i64 a), .val (.int .i64 b), .val (.bool s)] = cons (C.set k (a, b, s))
  | [], k, a, b, s, h => by simp at h
  | c :: C, 0, a, b, s, _ => rfl
  | c :: C, k + 1, a, b, s, h => by
    have ih := cons_splice (C := C) (k := k) (a := a) (b := b) (s := s) (by simpa using h)
    have e : cons (c :: C) = .val (.int .i64 c.1) :: .val (.int .i64 c.2.1) :: .val (.bool c.2.2) :: cons C := rfl
    have e2 : cons ((c :: C).set (k + 1) (a, b, s)) = .val (.int .i64 c.1) :: .val (.int .i64 c.2.1) :: .val (.bool c.2.2) :: cons (C.set k (a, b, s)) := rfl
    have e3 : (k + 1) * 3 = k * 3 + 1 + 1 + 1 := by omega
    rw [e2, ← ih, e, e3]
    simp only [splice, List.set_cons_succ]
theorem cons_set3 {C : List Con} {k : Nat} {a b : Int} {s : Bool} (h : k < C.length) : (((cons C).set (k * 3) (.val (.int .i64 a))).set (k * 3 + 1) (.val (.int .i64 b))).set (k * 3 + 1 + 1) (.val (.bool s)) = cons (C.set k (a, b, s)) := by
  have := cons_splice (a := a) (b := b) (s := s) h
  simpa only [splice] using this
theorem rep_cons (n : Nat) : rep [.val (.int .i64 0), .val (.int .i64 0), .val (.bool false)] (n * 3) = cons (List.replicate n dc) := by
  apply List.ext_getElem?
  intro i
  by_cases h : i < n * 3
  · have h3 : i / 3 < n := by omega
    have e : i = i / 3 * 3 + i % 3 := by omega
    have h4 : (cons (List.replicate n dc))[i]? = (con3 dc)[i % 3]? := by
      conv => lhs; rw [e]
      rw [cons_at (by simpa using h3) (by omega)]
      congr 2
      simp [cg, h3]
    rw [h4]
    simp only [rep, List.getElem?_map]
    rw [List.getElem?_range h]
    have : i % 3 < 3 := by omega
    simp only [Option.map_some, List.length_cons, List.length_nil]
    match i % 3, this with
    | 0, _ => rfl
    | 1, _ => rfl
    | 2, _ => rfl
  · rw [List.getElem?_eq_none (by simp [rep]; omega), List.getElem?_eq_none (by rw [cons_length]; simp; omega)]

def fillG {α : Type} (z : α) (L : List α) (k : Nat) : List α := L.take k ++ List.replicate (L.length - k) z
theorem fillG_zero {α : Type} (z : α) (L : List α) : fillG z L 0 = List.replicate L.length z := by simp [fillG]
theorem fillG_length {α : Type} (z : α) (L : List α) (k : Nat) (h : k ≤ L.length) : (fillG z L k).length = L.length := by simp [fillG]; omega
theorem fillG_set {α : Type} (z d : α) (L : List α) (k : Nat) (h : k < L.length) : (fillG z L k).set k (L.getD k d) = fillG z L (k + 1) := by
  apply List.ext_getElem?
  intro i
  simp [fillG, List.getElem?_set, List.getElem?_append, List.getElem?_take, List.getElem?_replicate]
  grind
theorem fillG_all {α : Type} (z : α) (L : List α) : fillG z L L.length = L := by simp [fillG]

def sc (c : Con) : SV := .agg [.val (.int .i64 c.1), .val (.int .i64 c.2.1), .val (.bool c.2.2)]
theorem view_con {H : Heap} {f : Nat} {k1 k2 : IntKind} {a b : Int} {s : Bool} : view H (f + 1) (.agg [.val (.int k1 a), .val (.int k2 b), .val (.bool s)]) = some (.agg [.val (.int k1 a), .val (.int k2 b), .val (.bool s)]) :=
  view_agg (viewL_cons_of view_int (viewL_cons_of view_int (viewL_cons_of view_bool viewL_nil_of)))

theorem flat_viewC {C : List Con} {n : Nat} {r : SV} {H : Heap} (h : FlatRes n 3 (cons C) r H) : view H 2 r = some (rc C) := by
  have hl := h.length
  rw [cons_length] at hl
  have hn : C.length = n := by omega
  obtain ⟨b, off, cap, ex, blk, rfl, h1, h2, h3, h4⟩ := h
  have hv : ∀ {cs : List SV} {f : Nat}, cs.all isVal = true → (∀ v, SV.val v ∈ cs → viewV v = .val v) → viewL H f cs = some cs := by
    intro cs f
    induction cs with
    | nil => intro _ _; exact viewL_nil_of
    | cons s cs ih =>
      intro ha hb
      simp only [List.all_cons, Bool.and_eq_true] at ha
      obtain ⟨v, rfl⟩ := isVal_of ha.1
      refine viewL_cons_of ?_ (ih ha.2 (fun v hv => hb v (by simp [hv])))
      simp only [view, hb v (by simp)]
  have hc : ∀ v, SV.val v ∈ cons C → viewV v = .val v := by
    intro v hv
    obtain ⟨i, hi⟩ := List.mem_iff_getElem?.1 hv
    obtain ⟨c, _, g2⟩ := cons_get C i _ hi
    have h3 : i % 3 < 3 := by omega
    match i % 3, h3, g2 with
    | 0, _, g2 => simp [con3] at g2; rw [← g2]; rfl
    | 1, _, g2 => simp [con3] at g2; rw [← g2]; rfl
    | 2, _, g2 => simp [con3] at g2; rw [← g2]; rfl
  simp only [view, h1, h3, if_true, h2, hv h4 hc, rc, hn]
theorem cg_take_succ {A B : List Con} {k : Nat} (hA : k < A.length) (hB : k < B.length) (h : A.take k = B.take k) (e : cg A k = cg B k) : A.take (k + 1) = B.take (k + 1) := by
  rw [List.take_succ_eq_append_getElem hA, List.take_succ_eq_append_getElem hB, h]
  simp [cg, hA, hB] at e
  rw [e]

end Go.Sh

/-
  Contracts: are these constraints? Of the reference and of the program.
-/
namespace Go.Sh
set_option linter.unusedSimpArgs false
set_option linter.unusedVariables false
open Go Go.Proofs

def fidx (pr : Con → Bool) (C : List Con) : Int := match C.findIdx? pr with | some i => (i : Int) | none => -1
theorem fidx_none {pr : Con → Bool} {C : List Con} (h : ∀ i, i < C.length → pr (cg C i) = false) : fidx pr C = -1 := by
  have : C.findIdx? pr = none := by
    rw [List.findIdx?_eq_none_iff]
    intro x hx
    obtain ⟨i, hi, e⟩ := List.getElem_of_mem hx
    have := h i hi
    simpa [cg, hi, e] using this
  rw [fidx, this]
theorem fidx_some {pr : Con → Bool} {C : List Con} {k : Nat} (hk : k < C.length) (h : ∀ i, i < k → pr (cg C i) = false) (e : pr (cg C k) = true) : fidx pr C = k := by
  have : C.findIdx? pr = some k := by
    rw [List.findIdx?_eq_some_iff_getElem]
    refine ⟨hk, by simpa [cg, hk] using e, fun j hj => ?_⟩
    have hj' : j < C.length := by omega
    have := h j hj
    simp [cg, hj'] at this
    simp [this]
  rw [fidx, this]
theorem fidx_ge (pr : Con → Bool) (C : List Con) : (0 ≤ fidx pr C) ↔ C.any pr = true := by
  rw [fidx]
  cases h : C.findIdx? pr with
  | none =>
    rw [List.findIdx?_eq_none_iff] at h
    constructor
    · intro e; simp at e
    · intro e
      obtain ⟨x, hx, h1⟩ := List.any_eq_true.1 e
      rw [h x hx] at h1; cases h1
  | some i =>
    rw [List.findIdx?_eq_some_iff_getElem] at h
    obtain ⟨hi, h1, _⟩ := h
    simp only [Int.natCast_nonneg, true_iff, List.any_eq_true]
    exact ⟨C[i], List.getElem_mem hi, h1⟩

def goodCon (n : Int) (c : Con) : Bool := inR c.1 0 (n - 1) && (inR c.2.1 0 (n - 1) && decide (c.1 < c.2.1))
def areCons (n : Int) (C : List Con) : Bool := inR n 1 8 && (decide (C.length ≤ 10) && C.all (goodCon n))

theorem cap_rptr (cs : List SV) (off : Nat) : ∀ H fu, viewL H fu [.rptr cs off] = some [.rptr cs off] := fun _ _ => viewL_cons_of view_rptr viewL_nil_of

theorem not_any_not {C : List Con} {p : Con → Bool} : (!C.any fun c => !p c) = C.all p := by
  induction C with
  | nil => rfl
  | cons c C ih => simp only [List.any_cons, List.all_cons, ← ih]; cases p c <;> simp

end Go.Sh

/-
  Contracts: the graph of the must-link constraints, its components. Of the reference and of the program.
-/
namespace Go.Sh
set_option linter.unusedSimpArgs false
set_option linter.unusedVariables false
open Go Go.Proofs

def linkB (c : Con) (x y : Nat) : Bool := c.2.2 && (decide (c.1 = x ∧ c.2.1 = y) || decide (c.1 = y ∧ c.2.1 = x))
def mustB (C : List Con) (x y : Nat) : Bool := C.any fun c => linkB c x y
theorem linkB_sym (c : Con) (x y : Nat) : linkB c x y = linkB c y x := by simp only [linkB]; rw [Bool.or_comm]
theorem mustB_sym (C : List Con) (x y : Nat) : mustB C x y = mustB C y x := by
  simp only [mustB]; congr 1; funext c; exact linkB_sym c x y
theorem mustB_succ {C : List Con} {k : Nat} (h : k < C.length) (x y : Nat) : mustB (C.take (k + 1)) x y = (mustB (C.take k) x y || linkB (cg C k) x y) := by
  have e : cg C k = C[k] := by simp [cg, h]
  rw [mustB, List.take_succ_eq_append_getElem h, List.any_append, e]
  simp [mustB]
theorem areCons_t {n : Int} {C : List Con} (h : areCons n C = true) : (1 ≤ n ∧ n ≤ 8) ∧ C.length ≤ 10 ∧ ∀ c ∈ C, 0 ≤ c.1 ∧ c.1 < c.2.1 ∧ c.2.1 < n := by
  simp only [areCons, Bool.and_eq_true] at h
  refine ⟨inR_of h.1, of_decide_eq_true h.2.1, fun c hc => ?_⟩
  have := List.all_eq_true.1 h.2.2 c hc
  simp only [goodCon, Bool.and_eq_true] at this
  have h1 := inR_of this.1
  have h2 := inR_of this.2.1
  have h3 := of_decide_eq_true this.2.2
  omega
theorem cg_mem {C : List Con} {k : Nat} (h : k < C.length) : cg C k ∈ C := by simp [cg, h]
theorem con_nat {n : Int} {C : List Con} (h : areCons n C = true) {k : Nat} (hk : k < C.length) : ∃ (x y : Nat) (s : Bool), cg C k = ((x : Int), (y : Int), s) ∧ x < y ∧ (y : Int) < n := by
  obtain ⟨a, b, s, hc⟩ := con_ex C k
  have := (areCons_t h).2.2 _ (cg_mem hk)
  rw [hc] at this
  simp only at this
  refine ⟨a.toNat, b.toNat, s, ?_, by omega, by omega⟩
  rw [hc]
  congr 1
  · omega
  · congr 1; omega
theorem linkB_at (x y : Nat) (s : Bool) (a b : Nat) : linkB ((x : Int), (y : Int), s) a b = (s && (decide (x = a ∧ y = b) || decide (x = b ∧ y = a))) := by
  simp only [linkB]
  congr 1
  have e1 : ((x : Int) = a ∧ (y : Int) = b) ↔ (x = a ∧ y = b) := by omega
  have e2 : ((x : Int) = b ∧ (y : Int) = a) ↔ (x = b ∧ y = a) := by omega
  rw [decide_eq_decide.2 e1, decide_eq_decide.2 e2]
def mustM (n : Nat) (C : List Con) : List (List Int) := genM n fun x y => bint (mustB C x y)

theorem mustM_wm {n : Nat} {C : List Con} (h : areCons n C = true) : WM (mustM n C) := by
  obtain ⟨hn, hC, hg⟩ := areCons_t h
  have hs := genM_sq n fun x y => bint (mustB C x y)
  have hb : ∀ b, 0 ≤ bint b ∧ bint b ≤ 1 := fun b => by cases b <;> simp [bint]
  have e1 : (mustM n C).length = n := hs.1
  refine ⟨by rw [e1]; omega, fun i hi => by rw [e1] at hi ⊢; exact hs.2 i hi, fun i k hi hk => ?_, fun i hi => ?_⟩
  · rw [e1] at hi hk
    rw [mustM, genM_at hi hk, genM_at hk hi, mustB_sym]
    have := hb (mustB C k i)
    exact ⟨by omega, rfl⟩
  · rw [e1] at hi
    rw [mustM, genM_at hi hi]
    have : mustB C i i = false := by
      rw [mustB, List.any_eq_false]
      intro c hc
      have := hg c hc
      simp only [linkB]
      simp
      omega
    rw [this]; rfl
theorem mustM_pB {n : Nat} {C : List Con} {x y : Nat} (hx : x < n) (hy : y < n) : pB (mustM n C) x y = mustB C x y := by
  rw [pB, mustM, genM_at hx hy]
  cases mustB C x y <;> simp [bint]
theorem mustM_length (n : Nat) (C : List Con) : (mustM n C).length = n := (genM_sq n _).1
/-- The component of each item in the graph of the must-link constraints. -/
noncomputable def must (n : Int) (C : List Con) : List Int := if areCons n C = true then comp n.toNat (mustB C) else []
theorem must_t {n : Int} {C : List Con} (h : areCons n C = true) : must n C = comp n.toNat (mustB C) := by rw [must, if_pos h]
theorem must_f {n : Int} {C : List Con} (h : areCons n C = false) : must n C = [] := by rw [must, if_neg (by rw [h]; simp)]
theorem must_ok {n : Nat} {C : List Con} : CompL n (mustB C) (comp n (mustB C)) := comp_ok fun x y _ _ h => by rw [mustB_sym]; exact h
theorem must_length {n : Int} {C : List Con} (h : areCons n C = true) : (must n C).length = n.toNat := by rw [must_t h]; exact must_ok.len
theorem must_pcomp {n : Nat} {C : List Con} (h : areCons n C = true) : pcomp (mustM n C) = comp n (mustB C) := by
  have hw := mustM_wm h
  rw [pcomp_t hw, mustM_length]
  have hc := comp_ok (n := n) (B := pB (mustM n C)) (by have := hw.sym; rwa [mustM_length] at this)
  exact (hc.congr fun x y hx hy => mustM_pB hx hy).eq.symm ▸ rfl

end Go.Sh

/-
  Contracts: the components of the must-link constraints, of the reference.
-/
namespace Go.Sh
set_option linter.unusedSimpArgs false
set_option linter.unusedVariables false
open Go Go.Proofs

end Go.Sh

/-
  Contracts: conflicts of constraints. Of the reference and of the program.
-/
namespace Go.Sh
set_option linter.unusedSimpArgs false
set_option linter.unusedVariables false
open Go Go.Proofs

def cfl (L : List Int) (c : Con) : Bool := !c.2.2 && decide (L.getD c.1.toNat 0 = L.getD c.2.1.toNat 0)
noncomputable def conflict (n : Int) (C : List Con) : Int := if areCons n C = true then fidx (cfl (must n C)) C else -1
theorem conflict_t {n : Int} {C : List Con} (h : areCons n C = true) : conflict n C = fidx (cfl (must n C)) C := by rw [conflict, if_pos h]
theorem conflict_f {n : Int} {C : List Con} (h : areCons n C = false) : conflict n C = -1 := by rw [conflict, if_neg (by rw [h]; simp)]
theorem cfl_at (L : List Int) (x y : Nat) (s : Bool) : cfl L ((x : Int), (y : Int), s) = (!s && decide (L.getD x 0 = L.getD y 0)) := rfl

def consistent (n : Int) (C : List Con) : Prop := areCons n C = true ∧ conflict n C < 0
open Classical in
noncomputable def isCst (n : Int) (C : List Con) : Bool := areCons n C && decide (conflict n C < 0)
end Go.Sh

/-
  Contracts: the constraints of some items. Of the reference and of the program.
-/
namespace Go.Sh
set_option linter.unusedSimpArgs false
set_option linter.unusedVariables false
open Go Go.Proofs

def rkeep (S : List Int) (c : Con) : Bool := decide (c.1 ∈ S) && decide (c.2.1 ∈ S)
def rmap (S : List Int) (c : Con) : Con := (idx c.1 S, idx c.2.1 S, c.2.2)
def rs (C : List Con) (S : List Int) : List Con := (C.filter (rkeep S)).map (rmap S)
theorem rs_nil (S : List Int) : rs [] S = [] := rfl
theorem rs_keep {C : List Con} {S : List Int} {k : Nat} {a b : Int} {s : Bool} (h : k < C.length) (hc : cg C k = (a, b, s)) (ha : a ∈ S) (hb : b ∈ S) : rs (C.take (k + 1)) S = rs (C.take k) S ++ [(idx a S, idx b S, s)] := by
  have e : C[k] = (a, b, s) := by rw [← hc]; simp [cg, h]
  rw [rs, List.take_succ_eq_append_getElem h, e, List.filter_append, List.map_append]
  simp [rs, rkeep, rmap, ha, hb]
theorem rs_drop {C : List Con} {S : List Int} {k : Nat} {a b : Int} {s : Bool} (h : k < C.length) (hc : cg C k = (a, b, s)) (hn : ¬ (a ∈ S ∧ b ∈ S)) : rs (C.take (k + 1)) S = rs (C.take k) S := by
  have e : C[k] = (a, b, s) := by rw [← hc]; simp [cg, h]
  rw [rs, List.take_succ_eq_append_getElem h, e, List.filter_append, List.map_append]
  have : rkeep S (a, b, s) = false := by
    rw [rkeep, ← Bool.decide_and]
    exact decide_eq_false hn
  simp [rs, this]
theorem rs_len (C : List Con) (S : List Int) : (rs C S).length ≤ C.length := by
  rw [rs, List.length_map]
  exact List.length_filter_le _ _
theorem cons_snoc (R : List Con) (a b : Int) (s : Bool) : cons R ++ [.val (.int .i64 a), .val (.int .i64 b), .val (.bool s)] = cons (R ++ [(a, b, s)]) := by
  rw [← cons_append]; rfl
theorem cons_take_self (R : List Con) : (cons R).take (R.length * 3) = cons R := by rw [← cons_length R, List.take_length]
theorem cons_nil : cons [] = [] := rfl
def slC (b : Nat) (R : List Con) : SV := if R.length = 0 then .val (.slice none 0 0) else .own b 0 R.length R.length 3 false
def slH (b : Nat) (R : List Con) : List (Nat × Blk) := if R.length = 0 then [] else [(b, ⟨cons R, false⟩)]
theorem slC_snoc (b : Nat) (R : List Con) (x : Con) : slC b (R ++ [x]) = .own b 0 (R.length + 1) (R.length + 1) 3 false := by simp [slC]
theorem slH_snoc (b : Nat) (R : List Con) (x : Con) : slH b (R ++ [x]) = [(b, ⟨cons (R ++ [x]), false⟩)] := by simp [slH]
theorem slC_f {b : Nat} {R : List Con} (h : R.length ≠ 0) : slC b R = .own b 0 R.length R.length 3 false := if_neg h
theorem slH_f {b : Nat} {R : List Con} (h : R.length ≠ 0) : slH b R = [(b, ⟨cons R, false⟩)] := if_neg h
theorem slC_t {b : Nat} {R : List Con} (h : R.length = 0) : slC b R = .val (.slice none 0 0) := if_pos h
theorem slH_t {b : Nat} {R : List Con} (h : R.length = 0) : slH b R = [] := if_pos h

theorem slH_one (b : Nat) (p q : Int) (t : Bool) : slH b [(p, q, t)] = [(b, ⟨[.val (.int .i64 p), .val (.int .i64 q), .val (.bool t)], false⟩)] := rfl
theorem rep3c (a b c : SV) : rep [a, b, c] 3 = [a, b, c] := rfl
def ResC (R : List Con) (r : SV) (H : Heap) : Prop := (R.length = 0 → r = .val (.slice none 0 0)) ∧ (R.length ≠ 0 → FlatRes R.length 3 (cons R) r H)

end Go.Sh

/-
  Drawing constraints and labels.
-/
namespace Go.Sh
set_option linter.unusedSimpArgs false
set_option linter.unusedVariables false
open Go Go.Proofs

theorem cons_snoc1 (C : List Con) (a b : Int) (s : Bool) : cons C ++ [.val (.int .i64 a), .val (.int .i64 b), .val (.bool s)] = cons (C ++ [(a, b, s)]) := by simp [cons, con3]
theorem cons_flat1 (a b : Int) (s : Bool) : [SV.val (.int .i64 a), .val (.int .i64 b), .val (.bool s)].all flat = true := rfl
def ConQ (B : List Int) (q : Nat) (cb : Nat) (H : Heap) (r : SV) (H' : Heap) : Prop :=
  ∃ lb C, r = .own lb 0 C.length C.length 3 false ∧ H'.map lb = some ⟨cons C, false⟩ ∧ H.nb ≤ lb ∧ lb < H'.nb ∧ DS B cb H H' ∧ C.length ≤ q

def LabQ (B : List Int) (n : Nat) (cb : Nat) (H : Heap) (r : SV) (H' : Heap) : Prop :=
  ∃ lb L, r = .own lb 0 L.length L.length 1 false ∧ H'.map lb = some ⟨ints L, false⟩ ∧ H.nb ≤ lb ∧ lb < H'.nb ∧ DS B cb H H' ∧ L.length = n
set_option maxRecDepth 20000 in
set_option maxHeartbeats 8000000 in
theorem Tryd.l19Labels_ok (B : List Int) (hB : B.length ≤ 1048576) (n : Nat) (h9 : n ≤ 9) (H : Heap) (cb : Nat) (hc : Cur B H cb) (hcb : cb < H.nb) : CallS Tryd.prog 95 [.optr cb 0, .val (.int .i64 n)] H (LabQ B n cb H) := by
  have hd0 := DS.push hc hcb ⟨[], false⟩
  refine CallS.of_body Tryd.func95 rfl (by kernel_rfl) (by simp [Tryd.ntmps95]) ?_
  refine SW_of_vc Tryd.mixed _ _ _ (by kernel_rfl) ?_
  simp (disch := omega) only [Tryd.ntmps95, Tryd.results95, go_sem]
  refine LoopW.loop (fun y : Nat × Int × List Int × Nat × Heap => ⟨ofL [(0, .optr cb 0), (1, .val (.int .i64 n)), (5, .own y.2.2.2.1 0 y.1 y.1 1 false), (6, .val (.int .i64 y.2.1)), (7, .val (.int .i64 y.1))], y.2.2.2.2⟩)
    (fun y => y.1 ≤ n ∧ -1 ≤ y.2.1 ∧ y.2.1 ≤ 3 ∧ y.2.2.1.length = y.1 ∧ y.2.2.2.2.map y.2.2.2.1 = some ⟨ints y.2.2.1, false⟩ ∧ H.nb ≤ y.2.2.2.1 ∧ y.2.2.2.1 < y.2.2.2.2.nb ∧ DS B cb H y.2.2.2.2) (fun y => n - y.1) (0, -1, [], H.nb, H.push ⟨[], false⟩)
    ⟨by simp, by simp, by simp, rfl, by rw [hpush_map, if_pos rfl]; rfl, Nat.le_refl _, by show H.nb < (H.push _).nb; rw [hpush_nb]; omega, hd0⟩ (Wk.of (by simp only [go_sem, ↓List.forall_mem_cons, List.not_mem_nil, false_implies, implies_true, and_true, true_and, and_self, ri_eq, Int.natCast_add, Int.cast_ofNat_Int]; try simp) rfl) ?_
  rintro ⟨k, top, L, lb, H1⟩ ⟨hk, ht1, ht2, hL, hm, hl1, hl2, hd⟩
  simp only at hk ht1 ht2 hL hm hl1 hl2 hd
  refine SW_of_vc Tryd.mixed _ _ _ (by kernel_rfl) ?_
  by_cases hlt : k < n
  · obtain ⟨q, hq⟩ : ∃ q : Int, q = if 4 < top + 2 then 4 else top + 2 := ⟨_, rfl⟩
    have hq2 : 1 ≤ q ∧ q ≤ 4 := by rw [hq]; split <;> omega
    have w := Tryd.l1Below_ok B hB q (by omega) H1 cb hd.cur
    have hil : (ints L).length = k := by rw [ints_length, hL]
    have htk : List.take k (ints L) = ints L := List.take_of_length_le (by omega)
    simp (disch := omega) only [Tryd.ntmps95, Tryd.results95, go_sem]
    rw [← hq]
    refine w.callX ?_
    rintro r H2 ⟨v, rfl, v0, v1, v2, hs⟩
    have v1 := v1 (by omega)
    have hd2 := hd.trans hs.ds
    have hm2 : H2.map lb = some ⟨ints L, false⟩ := by rw [hs.map (by omega), hm]
    have hnb2 := hs.nb
    have hnb := hd.nb
    have hsn : ints L ++ [.val (.int .i64 v)] = ints (L ++ [v]) := by simp [ints]
    simp (disch := omega) only [Tryd.ntmps95, Tryd.results95, go_sem, hm2, hil, htk, hsn, hset_map, hpush_map, hset_nb, hpush_nb]
    have e4 := DS.push hd2.cur (by omega) ⟨[.val (.int .i64 v)], false⟩
    have e5 := (hd2.trans e4).setF lb hl1 (by omega) none
    exact ⟨(k + 1, if top < v then v else top, L ++ [v], H2.nb + 1, _), ⟨hlt, by show -1 ≤ (if top < v then v else top); split <;> omega, by show (if top < v then v else top) ≤ 3; split <;> omega, by show (L ++ [v]).length = k + 1; simp [hL], by simp (disch := omega) only [hset_map, hpush_map, hset_nb, hpush_nb, if_pos, ↓reduceIte], by show H.nb ≤ H2.nb + 1; omega, by simp only [hset_nb, hpush_nb]; omega, e5.trans (DS.push e5.cur (by simp only [hset_nb, hpush_nb]; omega) _)⟩, by show n - (k + 1) < n - k; omega, Wk.of (by simp only [go_sem, ↓List.forall_mem_cons, List.not_mem_nil, false_implies, implies_true, and_true, true_and, and_self, ri_eq, Int.natCast_add, Int.cast_ofNat_Int]; try simp) rfl⟩
  · obtain rfl : k = n := by omega
    have hfin : LabQ B k cb H (.own lb 0 k k 1 false) H1 := ⟨lb, L, by rw [hL], hm, hl1, hl2, hd, hL⟩
    simp (disch := omega) only [Tryd.ntmps95, Tryd.results95, go_sem]
    exact hfin

def CaQ (B : List Int) (cb : Nat) (H : Heap) (r : SV) (H' : Heap) : Prop :=
  ∃ n : Int, ∃ r0, r = .tup [.val (.int .i64 n), r0] ∧ 0 ≤ n ∧ n ≤ 9 ∧ ConQ B 5 cb H r0 H'
theorem ConQ.low {B : List Int} {q : Nat} {cb : Nat} {H H1 H' : Heap} {r : SV} (h : ConQ B q cb H1 r H') (hd : DS B cb H H1) : ConQ B q cb H r H' := by
  obtain ⟨lb, C, e, hm, l1, l2, d, hl⟩ := h
  exact ⟨lb, C, e, hm, by have := hd.nb; omega, l2, hd.trans d, hl⟩
end Go.Sh

/-
  Results that are known as contents of some kind alone.
-/
namespace Go.Sh
set_option linter.unusedSimpArgs false
set_option linter.unusedVariables false
open Go Go.RowKit Go.Proofs

section
variable {P : Program}
/-- f writes nothing that came in; its result reads as one of S, in memory of its own. -/
def PCallE (P : Program) (f : FuncId) (args : List SV) (S : SV → Prop) : Prop :=
  Enters P f ∧ ∀ w vs, LRel (fun _ => False) w noj args vs → TabOk (fun _ => False) w → Calls P f vs.toArray w (fun e w' => ∃ v T, S T ∧ e = .returned v ∧ Below w.heap.size w w' ∧ VRel (fun k => k < w.heap.size) w' noj T v)
theorem FCall.pcallE {f : FuncId} {args : List SV} {R : SV → Heap → Prop} {S : SV → Prop} (h : FCall P f args R) (fu : Nat) (hr : ∀ r H, R r H → ∃ T, view H fu r = some T ∧ S T) : PCallE P f args S := by
  refine ⟨h.1, fun w vs hl ht => (h.2 w vs hl ht).mono ?_⟩
  rintro e w' ⟨v, r, j, H, h1, h2, h3, h4, h5, h6, h7, h8⟩
  have hlive : Live (fun k => k < w.heap.size) j H w' := h3.liveN h7 (fun k hk => by have := h5 k hk; omega)
  obtain ⟨T, k1, k2⟩ := hr r H h8
  exact ⟨v, T, k2, h1, h2, view_sound hlive fu r T v k1 (VRel.anyO r v h6 h4)⟩
theorem PCallE.callE {f : FuncId} {args args' : List SV} {S : SV → Prop} {H : Heap} {K : SV → Heap → Prop} (h : PCallE P f args' S) (fu : Nat) (hv : viewL H fu args = some args') (k : ∀ T, S T → K T H) : @CallX P f args H ⟨K⟩ := by
  refine ⟨h.1, fun j w vs r hl => ?_⟩
  have hl' := viewL_sound r.live0 fu args args' vs hv (LRel.tr (Tr.weaken w (fun _ h => h.elim)) (fun _ _ h => h) args vs hl)
  refine (h.2 w vs hl' (r.tab.tr (Tr.weaken w (fun _ h => h.elim)))).mono ?_
  rintro e w' ⟨v, T, hS, h1, h2, h3⟩
  obtain ⟨r', nx⟩ := r.below h2
  refine ⟨T, v, j, H, h1, r', ?_, nx, k T hS⟩
  exact VRel.tr (Tr.weaken w' (fun k hk => r.own_lt hk)) (by intro b p h; simp [noj] at h) T v h3
end
/-- A matrix, constraints, labels: what a drawing gives back. -/
def R3 (S : SV → Prop) (r : SV) (H : Heap) : Prop := ∃ T, view H 3 r = some T ∧ S T
def part (H : Heap) (p : Nat → Prop) [DecidablePred p] : Heap := ⟨fun b => if p b then H.map b else none, H.nb⟩
theorem part_sub (H : Heap) (p : Nat → Prop) [DecidablePred p] : Sub (part H p) H := ⟨rfl, fun b => by
  show (if p b then H.map b else none) = none ∨ (if p b then H.map b else none) = H.map b
  split
  · exact .inr rfl
  · exact .inl rfl⟩
theorem part_map {H : Heap} {p : Nat → Prop} [DecidablePred p] {b : Nat} (h : p b) : (part H p).map b = H.map b := if_pos h
end Go.Sh

/-
  Drawing two lists, and labels.
-/
namespace Go.Sh
set_option linter.unusedSimpArgs false
set_option linter.unusedVariables false
open Go Go.RowKit Go.Proofs

/-- A list in memory of its own, or nil. -/
def LIn (H' : Heap) (lo : Nat) (r : SV) (L : List Int) : Prop := (r = .val (.slice none 0 0) ∧ L = []) ∨ ∃ lb, r = .own lb 0 L.length L.length 1 false ∧ H'.map lb = some ⟨ints L, false⟩ ∧ lo ≤ lb ∧ lb < H'.nb
def LpQ (B : List Int) (cb : Nat) (H : Heap) (r : SV) (H' : Heap) : Prop := ∃ L, LIn H' H.nb r L ∧ DS B cb H H' ∧ L.length ≤ 8
theorem LIn.ds {B : List Int} {cb lo : Nat} {H H' : Heap} {r : SV} {L : List Int} (h : LIn H lo r L) (hl : cb < lo) (hd : DS B cb H H') : LIn H' lo r L := by
  rcases h with h | ⟨lb, h1, h2, h3, h4⟩
  · exact .inl h
  · have := hd.nb
    exact .inr ⟨lb, h1, by rw [hd.fr lb h4 (by omega), h2], h3, by omega⟩
theorem LIn.low {lo lo' : Nat} {H : Heap} {r : SV} {L : List Int} (h : LIn H lo r L) (hl : lo' ≤ lo) : LIn H lo' r L := by
  rcases h with h | ⟨lb, h1, h2, h3, h4⟩
  · exact .inl h
  · exact .inr ⟨lb, h1, h2, by omega, h4⟩
theorem LIn.view {lo f : Nat} {H : Heap} {r : SV} {L : List Int} (h : LIn H lo r L) : Sh.view H (f + 1) r = some (ri L) := by
  rcases h with ⟨rfl, rfl⟩ | ⟨lb, rfl, h2, _⟩
  · exact view_nil
  · exact view_own h2 rfl
set_option maxRecDepth 20000 in
set_option maxHeartbeats 8000000 in
theorem Tryd.l19Any_ok (B : List Int) (hB : B.length ≤ 1048576) (H : Heap) (cb : Nat) (hc : Cur B H cb) (hcb : cb < H.nb) : CallS Tryd.prog 93 [.optr cb 0] H (LpQ B cb H) := by
  refine CallS.of_body Tryd.func93 rfl (by kernel_rfl) (by simp [Tryd.ntmps93]) ?_
  refine SW_of_vc Tryd.mixed _ _ _ (by kernel_rfl) ?_
  simp (disch := omega) only [Tryd.ntmps93, Tryd.results93, go_sem]
  refine (Tryd.l1Below_ok B hB 6 (by omega) H cb hc).callX ?_
  rintro r H1 ⟨v, rfl, v0, v1, _, hs⟩
  have v1 := v1 (by omega)
  have hd1 := hs.ds
  have hn1 := hs.nb
  obtain ⟨n, rfl⟩ : ∃ n : Nat, v = n := ⟨v.toNat, by omega⟩
  have hone : (1 : Int) + (n : Int) = ((n + 1 : Nat) : Int) := by omega
  simp (disch := omega) only [Tryd.ntmps93, Tryd.results93, go_sem, hone]
  refine (Tryd.l19Labels_ok B hB (n + 1) (by omega) H1 cb hd1.cur (by omega)).callX ?_
  rintro r H2 ⟨lb, L, rfl, hm, l1, l2, hd2, hL⟩
  have hd2 := hd1.trans hd2
  simp (disch := omega) only [Tryd.ntmps93, Tryd.results93, go_sem]
  refine (Tryd.l1Below_ok B hB 14 (by omega) H2 cb hd2.cur).callX ?_
  rintro r H3 ⟨u, rfl, u0, u1, _, hs3⟩
  have hd3 := hd2.trans hs3.ds
  have hn3 := hs3.nb
  have hm3 : H3.map lb = some ⟨ints L, false⟩ := by rw [hs3.map (by omega), hm]
  have hil := ints_length L
  have hit : (ints L).take L.length = ints L := List.take_of_length_le (by omega)
  by_cases g0 : u = 0
  · subst g0
    have hp1 := DS.push hd3.cur (by omega) ⟨[.val (.int .i64 1), .val (.int .i64 (-1))], false⟩
    have hd4 := hd3.trans hp1
    simp (disch := omega) only [Tryd.ntmps93, Tryd.results93, go_sem]
    refine (Tryd.l1Pick_ok B hB [1, -1] (by simp) (by simp) _ cb H3.nb false false hp1.cur (by rw [hpush_map, if_pos rfl]; rfl) (by omega)).callX ?_
    rintro r H4 ⟨v, rfl, _, hs4⟩
    have hd5 := hd4.trans hs4.ds
    have hn4 := hs4.nb
    rw [hpush_nb] at hn4
    have hm4 : H4.map lb = some ⟨ints L, false⟩ := by rw [hs4.map (by omega), hpush_map, if_neg (by omega), hm3]
    have hst := ints_set L 0 v
    simp (disch := omega) only [Tryd.ntmps93, Tryd.results93, go_sem, hm4, hil, hst]
    have e5 := hd5.setF lb (by omega) (by omega) (some ⟨ints (L.set 0 v), false⟩)
    have hl5 : (L.set 0 v).length = L.length := List.length_set
    exact ⟨L.set 0 v, .inr ⟨lb, by rw [hl5], by rw [hset_map, if_pos rfl], by omega, by rw [hset_nb]; omega⟩, e5, by omega⟩
  · by_cases g1 : u = 1
    · subst g1
      simp (disch := omega) only [Tryd.ntmps93, Tryd.results93, go_sem, hm3, hil, hit, hset_map, hpush_map, hset_nb, hpush_nb]
      have e4 := hd3.trans (DS.push hd3.cur (by omega) ⟨[.val (.int .i64 7)], false⟩)
      have e5 := e4.setF lb (by omega) (by omega) none
      have e6 := e5.trans (DS.push e5.cur (by simp only [hset_nb, hpush_nb]; omega) ⟨ints (L ++ [7]), false⟩)
      have hl7 : (L ++ [7]).length = L.length + 1 := by simp
      exact ⟨L ++ [7], .inr ⟨H3.nb + 1, by rw [hl7], by rw [hpush_map]; simp only [hset_nb, hpush_nb, ↓reduceIte], by omega, by simp only [hset_nb, hpush_nb]; omega⟩, e6, by omega⟩
    · by_cases g2 : u = 2
      · subst g2
        simp (disch := omega) only [Tryd.ntmps93, Tryd.results93, go_sem]
        exact ⟨[], .inl ⟨rfl, rfl⟩, hd3, by simp⟩
      · have hf : ∀ k : Int, u ≠ k → (u == k) = false := fun k h => by rw [beq_eq_false_iff_ne]; exact h
        simp (disch := omega) only [Tryd.ntmps93, Tryd.results93, go_sem, hf 0 g0, hf 1 g1, hf 2 g2]
        exact ⟨L, .inr ⟨lb, rfl, hm3, by omega, by omega⟩, hd3, by omega⟩

/-- Two lists, or one, of few numbers. -/
def TwoT (T : SV) : Prop := ∃ A B : List Int, T = .tup [ri A, ri B] ∧ A.length ≤ 8 ∧ B.length ≤ 8
def OneT (T : SV) : Prop := ∃ A : List Int, T = ri A ∧ A.length ≤ 8
theorem LIn.nr {lo : Nat} {H : Heap} {r : SV} {L : List Int} (h : LIn H lo r L) : noRow r = true := by
  rcases h with ⟨rfl, _⟩ | ⟨lb, rfl, _⟩ <;> rfl
theorem LIn.part {lo : Nat} {H : Heap} {r : SV} {L : List Int} (h : LIn H lo r L) (p : Nat → Prop) [DecidablePred p] (hp : ∀ b, r = .own b 0 L.length L.length 1 false → p b) : LIn (part H p) lo r L := by
  rcases h with h | ⟨lb, h1, h2, h3, h4⟩
  · exact .inl h
  · exact .inr ⟨lb, h1, by rw [part_map (hp lb h1), h2], h3, h4⟩
def isB (r : SV) (b : Nat) : Prop := ∃ o n c z e, r = .own b o n c z e
open Classical in
theorem fin_two {H : Heap} {l1 l2 : Nat} {r1 r2 : SV} {A B : List Int} (h1 : LIn H l1 r1 A) (h2 : LIn H l2 r2 B) (ha : A.length ≤ 8) (hb : B.length ≤ 8) : Fin (R3 TwoT) (.tup [r1, r2]) H := by
  let p : Nat → Prop := fun b => isB r1 b ∨ isB r2 b
  have g1 := h1.part p (fun b e => .inl ⟨_, _, _, _, _, e⟩)
  have g2 := h2.part p (fun b e => .inr ⟨_, _, _, _, _, e⟩)
  refine ⟨part H p, part_sub H p, by simp only [noRow, noRowL, h1.nr, h2.nr, Bool.and_self], fun b blk hb => ?_, .tup [ri A, ri B], ?_, A, B, rfl, ha, hb⟩
  · have hb' : (if p b then H.map b else none) = some blk := hb
    split at hb'
    · rename_i hp
      rcases hp with ⟨o, n, c, z, e, hp⟩ | ⟨o, n, c, z, e, hp⟩
      · rcases h1 with ⟨q, _⟩ | ⟨lb, q1, q2, _⟩
        · rw [q] at hp; cases hp
        · rw [q1] at hp
          obtain rfl : lb = b := by injection hp
          rw [q2] at hb'; simp at hb'; subst hb'; exact noRowL_ints A
      · rcases h2 with ⟨q, _⟩ | ⟨lb, q1, q2, _⟩
        · rw [q] at hp; cases hp
        · rw [q1] at hp
          obtain rfl : lb = b := by injection hp
          rw [q2] at hb'; simp at hb'; subst hb'; exact noRowL_ints B
    · simp at hb'
  · have h3 : viewL (Sh.part H p) 2 [r1, r2] = some [ri A, ri B] := viewL_cons_of g1.view (viewL_cons_of g2.view viewL_nil_of)
    simp only [Sh.view, h3]

theorem DS.low {B : List Int} {cb : Nat} {H H1 H2 : Heap} (h : DS B cb H H1) (g : DS B cb H1 H2) : H.nb ≤ H2.nb := Nat.le_trans h.nb g.nb
set_option maxRecDepth 20000 in
set_option maxHeartbeats 8000000 in
def TwoQ (H : Heap) (r : SV) (H' : Heap) : Prop := ∃ A B r1 r2, r = .tup [r1, r2] ∧ LIn H' H.nb r1 A ∧ LIn H' H.nb r2 B ∧ A.length ≤ 8 ∧ B.length ≤ 8
theorem Tryd.l19Two_ok (B : List Int) (hB : B.length ≤ 1048576) (H : Heap) : CallS Tryd.prog 69 [rby B] H (TwoQ H) := by
  refine CallS.of_body Tryd.func69 rfl (by kernel_rfl) (by simp [Tryd.ntmps69]) ?_
  refine SW_of_vc Tryd.mixed _ _ _ (by kernel_rfl) ?_
  simp (disch := omega) only [Tryd.ntmps69, Tryd.results69, go_sem, rby]
  refine (Tryd.l1New_ok B hB _).callX ?_
  rintro r H0 ⟨h, rfl, rfl⟩
  have hc : Cur B (H.push (curB B 0 h)) H.nb := ⟨0, h, by omega, by rw [hpush_map, if_pos rfl]⟩
  have hn0 : (H.push (curB B 0 h)).nb = H.nb + 1 := rfl
  generalize H.push (curB B 0 h) = H0 at *
  generalize hcb : H.nb = cb at hc hn0 ⊢
  simp (disch := omega) only [Tryd.ntmps69, Tryd.results69, go_sem, rby]
  refine (Tryd.l19Any_ok B hB H0 cb hc (by omega)).callX ?_
  rintro r1 H1 ⟨L, hL, hd1, hl8⟩
  have hn1 := hd1.nb
  simp (disch := omega) only [Tryd.ntmps69, Tryd.results69, go_sem, rby]
  refine (Tryd.l1Once_ok B hB 8 (by omega) H1 cb hd1.cur).callX ?_
  rintro r H2 ⟨b, rfl, hs2⟩
  have hd2 := hs2.ds
  have hn2 := hs2.nb
  cases b with
  | true =>
    simp (disch := omega) only [Tryd.ntmps69, Tryd.results69, go_sem, rby]
    refine (Tryd.l19Any_ok B hB H2 cb hd2.cur (by omega)).callX ?_
    rintro r2 H3 ⟨L2, hL2, hd3, hl82⟩
    have hL3 := hL.ds (by omega) (hd2.trans hd3)
    simp (disch := omega) only [Tryd.ntmps69, Tryd.results69, go_sem, rby]
    exact ⟨L, L2, r1, r2, rfl, hL3.low (by omega), hL2.low (by omega), hl8, hl82⟩
  | false =>
    rcases hL with ⟨rfl, rfl⟩ | ⟨lb, rfl, h2, h3, h4⟩
    · simp (disch := omega) only [Tryd.ntmps69, Tryd.results69, go_sem, rby]
      refine (Tryd.l19Labels_ok B hB 0 (by omega) H2 cb hd2.cur (by omega)).callX ?_
      rintro r2 H3 ⟨lb2, L2, rfl, hm, l1, l2, hd3, hl2⟩
      simp (disch := omega) only [Tryd.ntmps69, Tryd.results69, go_sem, rby]
      exact ⟨[], L2, _, _, rfl, .inl ⟨rfl, rfl⟩, .inr ⟨lb2, rfl, hm, by omega, l2⟩, by simp, by omega⟩
    · have hL : LIn H1 H0.nb (.own lb 0 L.length L.length 1 false) L := .inr ⟨lb, rfl, h2, h3, h4⟩
      simp (disch := omega) only [Tryd.ntmps69, Tryd.results69, go_sem, rby]
      refine (Tryd.l19Labels_ok B hB L.length (by omega) H2 cb hd2.cur (by omega)).callX ?_
      rintro r2 H3 ⟨lb2, L2, rfl, hm, l1, l2, hd3, hl2⟩
      have hL3 := hL.ds (by omega) (hd2.trans hd3)
      simp (disch := omega) only [Tryd.ntmps69, Tryd.results69, go_sem, rby]
      exact ⟨L, L2, _, _, rfl, hL3.low (by omega), .inr ⟨lb2, rfl, hm, by omega, l2⟩, hl8, by omega⟩
theorem Tryd.drawMeet_e (B : List Int) (hB : B.length ≤ 1048576) : PCallE Tryd.prog 33 [rby B] TwoT := by
  refine FCall.pcallE (R := R3 TwoT) ?_ 3 (fun _ _ h => h)
  refine FCall.of_body Tryd.func33 rfl (by kernel_rfl) (by simp [Tryd.ntmps33]) ?_
  refine SW_of_vc Tryd.mixed _ _ _ (by kernel_rfl) ?_
  simp (disch := omega) only [Tryd.ntmps33, Tryd.results33, go_sem, rby]
  refine (Tryd.l19Two_ok B hB _).callX ?_
  rintro r H1 ⟨L1, L2, r1, r2, rfl, h1, h2, ha, hb⟩
  simp (disch := omega) only [Tryd.ntmps33, Tryd.results33, go_sem, rby]
  exact fin_two h1 h2 ha hb
theorem repI5 : rep [SV.val (.int .i64 0)] 5 = [SV.val (.int .i64 0), SV.val (.int .i64 0), SV.val (.int .i64 0), SV.val (.int .i64 0), SV.val (.int .i64 0)] := rfl
theorem fin_oneE {H : Heap} {b n cap : Nat} {e e2 : Bool} {L : List Int} (hn : n = L.length) (hb : H.map b = some ⟨ints L, e2⟩) (hl : L.length ≤ 8) : Fin (R3 OneT) (.own b 0 n cap 1 e) H :=
  Fin.own hb (noRowL_ints L) ⟨ri L, view_own (L := L) (e2 := e2) (if_pos rfl) hn, L, rfl, hl⟩
set_option maxRecDepth 20000 in
set_option maxHeartbeats 8000000 in
theorem Tryd.drawCanon_e (B : List Int) (hB : B.length ≤ 1048576) : PCallE Tryd.prog 42 [rby B] OneT := by
  refine FCall.pcallE (R := R3 OneT) ?_ 3 (fun _ _ h => h)
  refine FCall.of_body Tryd.func42 rfl (by kernel_rfl) (by simp [Tryd.ntmps42]) ?_
  refine SW_of_vc Tryd.mixed _ _ _ (by kernel_rfl) ?_
  simp (disch := omega) only [Tryd.ntmps42, Tryd.results42, go_sem, rby]
  refine (Tryd.l1New_ok B hB _).callX ?_
  rintro r H0 ⟨h, rfl, rfl⟩
  have hc : Cur B ((hp [] 0).push (curB B 0 h)) 0 := ⟨0, h, by omega, by rw [hpush_map]; rfl⟩
  have hn0 : ((hp [] 0).push (curB B 0 h)).nb = 1 := rfl
  generalize (hp [] 0).push (curB B 0 h) = H0 at *
  have hd0 := DS.push hc (by omega) ⟨[], false⟩
  simp (disch := omega) only [Tryd.ntmps42, Tryd.results42, go_sem, rby]
  refine (Tryd.l1Below_ok B hB 8 (by omega) (H0.push ⟨[], false⟩) 0 hd0.cur).callX ?_
  rintro r H1 ⟨v, rfl, v0, v1, _, hs⟩
  have v1 := v1 (by omega)
  obtain ⟨m, rfl⟩ : ∃ m : Nat, v = m := ⟨v.toNat, by omega⟩
  have hd1 := hd0.trans hs.ds
  have hn1 := hs.nb
  rw [hpush_nb] at hn1
  have hm1 : H1.map H0.nb = some ⟨ints [], false⟩ := by rw [hs.map (by omega), hpush_map, if_pos rfl]; rfl
  simp (disch := omega) only [Tryd.ntmps42, Tryd.results42, go_sem, rby]
  refine LoopW.loop (fun y : Nat × List Int × Nat × Heap => ⟨ofL [(3, .optr 0 0), (4, .own y.2.2.1 0 y.2.1.length y.2.1.length 1 false), (5, .val (.int .i64 y.1))], y.2.2.2⟩)
    (fun y => y.1 + y.2.1.length = m ∧ y.2.2.2.map y.2.2.1 = some ⟨ints y.2.1, false⟩ ∧ H0.nb ≤ y.2.2.1 ∧ y.2.2.1 < y.2.2.2.nb ∧ DS B 0 H0 y.2.2.2) (fun y => y.1) (m, [], H0.nb, H1) ⟨by simp, hm1, Nat.le_refl _, by show H0.nb < H1.nb; omega, hd1⟩ (Wk.of (by simp only [go_sem, ↓List.forall_mem_cons, List.not_mem_nil, false_implies, implies_true, and_true, true_and, and_self, ri_eq, Int.natCast_add, Int.cast_ofNat_Int]; try simp) rfl) ?_
  rintro ⟨k, L, lb, H2⟩ ⟨hk, hm, l1, l2, hd⟩
  simp only at hk hm l1 l2 hd
  have hnd := hd.nb
  have hil := ints_length L
  have hit : (ints L).take L.length = ints L := List.take_of_length_le (by omega)
  refine SW_of_vc Tryd.mixed _ _ _ (by kernel_rfl) ?_
  by_cases h0 : k = 0
  · subst h0
    simp (disch := omega) only [Tryd.ntmps42, Tryd.results42, go_sem]
    exact fin_oneE rfl hm (by omega)
  · obtain ⟨k, rfl⟩ : ∃ q, k = q + 1 := ⟨k - 1, by omega⟩
    have hp1 := DS.push hd.cur (by omega) ⟨[.val (.int .i64 0), .val (.int .i64 5), .val (.int .i64 3), .val (.int .i64 (-2)), .val (.int .i64 9)], false⟩
    simp (disch := omega) only [Tryd.ntmps42, Tryd.results42, go_sem, repI5]
    refine (Tryd.l1Pick_ok B hB [0, 5, 3, -2, 9] (by simp) (by simp) _ 0 H2.nb false false hp1.cur (by rw [hpush_map, if_pos rfl]; rfl) (by omega)).callX ?_
    rintro r H3 ⟨u, rfl, _, hs3⟩
    have hd3 := (hd.trans hp1).trans hs3.ds
    have hn3 := hs3.nb
    rw [hpush_nb] at hn3
    have hm3 : H3.map lb = some ⟨ints L, false⟩ := by rw [hs3.map (by omega), hpush_map, if_neg (by omega), hm]
    have hsn : ints L ++ [.val (.int .i64 u)] = ints (L ++ [u]) := by simp [ints]
    simp (disch := omega) only [Tryd.ntmps42, Tryd.results42, go_sem, hm3, hil, hit, hsn, hset_map, hpush_map, hset_nb, hpush_nb]
    have e4 := hd3.trans (DS.push hd3.cur (by omega) ⟨[.val (.int .i64 u)], false⟩)
    have e5 := e4.setF lb l1 (by omega) none
    have e6 := e5.trans (DS.push e5.cur (by simp only [hset_nb, hpush_nb]; omega) ⟨ints (L ++ [u]), false⟩)
    have hl7 : (L ++ [u]).length = L.length + 1 := by simp
    have hkk : ((k + 1 : Nat) : Int) - 1 = (k : Int) := by omega
    have e7 : (((H3.push ⟨[.val (.int .i64 u)], false⟩).set lb none).push ⟨ints (L ++ [u]), false⟩).map (H3.nb + 1) = some ⟨ints (L ++ [u]), false⟩ := by rw [hpush_map]; simp only [hset_nb, hpush_nb, ↓reduceIte]
    exact ⟨(k, L ++ [u], H3.nb + 1, ((H3.push ⟨[.val (.int .i64 u)], false⟩).set lb none).push ⟨ints (L ++ [u]), false⟩), ⟨by simp only [hl7]; omega, e7, by show H0.nb ≤ H3.nb + 1; omega, by simp only [hset_nb, hpush_nb]; omega, e6⟩, by show k < k + 1; omega, Wk.of (by simp only [go_sem, ↓List.forall_mem_cons, List.not_mem_nil, false_implies, implies_true, and_true, true_and, and_self, ri_eq, Int.natCast_add, Int.cast_ofNat_Int, hl7, hkk]; try simp) rfl⟩
end Go.Sh

/-
  Labels by first occurrence: what they tell of the list; refinement as equality of the meet.
-/
namespace Go.Sh
set_option linter.unusedSimpArgs false
set_option linter.unusedVariables false
open Go Go.Proofs

theorem idx_append {x y : Int} {S : List Int} (h : x ∈ S) : idx x (S ++ [y]) = idx x S := by
  unfold idx
  rw [if_pos h, if_pos (List.mem_append.2 (.inl h)), List.idxOf_append, if_pos h]
theorem idx_last {x : Int} {S : List Int} (h : ¬ x ∈ S) : idx x (S ++ [x]) = S.length := by
  unfold idx
  rw [if_pos (by simp), List.idxOf_append, if_neg h]
  simp
theorem idx_inj {x y : Int} {S : List Int} (hx : x ∈ S) (hy : y ∈ S) (h : idx x S = idx y S) : x = y := by
  unfold idx at h
  rw [if_pos hx, if_pos hy] at h
  have h' : S.idxOf x = S.idxOf y := by omega
  have h1 := List.getElem_idxOf (List.idxOf_lt_length_of_mem hx)
  have h2 := List.getElem_idxOf (List.idxOf_lt_length_of_mem hy)
  rw [← h1, ← h2]
  simp only [h']

theorem cst_spec (X : List Int) : ∀ k, k ≤ X.length → (∀ i, i < k → X.getD i 0 ∈ (cst (X.take k)).1 ∧ (cst (X.take k)).2.getD i 0 = idx (X.getD i 0) (cst (X.take k)).1) ∧ ∀ z, z ∈ (cst (X.take k)).1 → ∃ i, i < k ∧ X.getD i 0 = z
  | 0, _ => by
    refine ⟨fun i hi => by omega, fun z hz => ?_⟩
    rw [List.take_zero, cst_zero] at hz
    simp at hz
  | k + 1, hk => by
    obtain ⟨h1, h2⟩ := cst_spec X k (by omega)
    have e := cst_succ (L := X) (k := k) (by omega)
    have hlen : (cst (X.take k)).2.length = k := by rw [cst_len2]; simp; omega
    rw [e]
    generalize hs : cst (X.take k) = st at *
    obtain ⟨S, O⟩ := st
    simp only at h1 h2 hlen ⊢
    unfold cstep
    simp only
    by_cases hx : X.getD k 0 ∈ S
    · rw [if_pos hx]
      refine ⟨fun i hi => ?_, fun z hz => ?_⟩
      · rcases Nat.lt_succ_iff_lt_or_eq.mp hi with h | rfl
        · obtain ⟨g1, g2⟩ := h1 i h
          refine ⟨g1, ?_⟩
          rw [← g2]
          simp [List.getD, List.getElem?_append_left (show i < O.length by omega)]
        · refine ⟨hx, ?_⟩
          simp [List.getD, List.getElem?_append_right (show O.length ≤ i by omega), hlen]
      · obtain ⟨i, g1, g2⟩ := h2 z hz
        exact ⟨i, by omega, g2⟩
    · rw [if_neg hx]
      refine ⟨fun i hi => ?_, fun z hz => ?_⟩
      · rcases Nat.lt_succ_iff_lt_or_eq.mp hi with h | rfl
        · obtain ⟨g1, g2⟩ := h1 i h
          refine ⟨List.mem_append.2 (.inl g1), ?_⟩
          show (O ++ [(S.length : Int)]).getD i 0 = idx (X.getD i 0) (S ++ [X.getD k 0])
          rw [idx_append g1, ← g2]
          simp [List.getD, List.getElem?_append_left (show i < O.length by omega)]
        · refine ⟨by simp, ?_⟩
          show (O ++ [(S.length : Int)]).getD i 0 = idx (X.getD i 0) (S ++ [X.getD i 0])
          rw [idx_last hx]
          simp [List.getD, List.getElem?_append_right (show O.length ≤ i by omega), hlen]
      · rcases List.mem_append.1 hz with h | h
        · obtain ⟨i, g1, g2⟩ := h2 z h
          exact ⟨i, by omega, g2⟩
        · simp at h
          exact ⟨k, by omega, by simpa using h.symm⟩

theorem canon_inj {X : List Int} {i k : Nat} (hi : i < X.length) (hk : k < X.length) (h : (canon X).getD i 0 = (canon X).getD k 0) : X.getD i 0 = X.getD k 0 := by
  have := (cst_spec X X.length (Nat.le_refl _)).1
  rw [List.take_length] at this
  obtain ⟨g1, g2⟩ := this i hi
  obtain ⟨q1, q2⟩ := this k hk
  refine idx_inj g1 q1 ?_
  rw [← g2, ← q2]
  exact h

theorem canon_congr {X Y : List Int} (hl : X.length = Y.length) (h : ∀ i k, i < X.length → k < X.length → (X.getD i 0 = X.getD k 0 ↔ Y.getD i 0 = Y.getD k 0)) : canon X = canon Y := by
  have key : ∀ k, k ≤ X.length → (cst (X.take k)).2 = (cst (Y.take k)).2 ∧ (cst (X.take k)).1.length = (cst (Y.take k)).1.length := by
    intro k
    induction k with
    | zero => intro _; simp
    | succ k ih =>
      intro hk
      obtain ⟨i1, i2⟩ := ih (by omega)
      obtain ⟨x1, x2⟩ := cst_spec X k (by omega)
      obtain ⟨y1, y2⟩ := cst_spec Y k (by omega)
      rw [cst_succ (L := X) (by omega), cst_succ (L := Y) (by omega)]
      generalize hs : cst (X.take k) = sx at *
      generalize ht : cst (Y.take k) = sy at *
      obtain ⟨SX, OX⟩ := sx
      obtain ⟨SY, OY⟩ := sy
      simp only at i1 i2 x1 x2 y1 y2
      subst i1
      unfold cstep
      simp only
      by_cases hx : X.getD k 0 ∈ SX
      · obtain ⟨i, g1, g2⟩ := x2 _ hx
        have hy' := (h i k (by omega) (by omega)).1 g2
        have hy : Y.getD k 0 ∈ SY := by rw [← hy']; exact (y1 i g1).1
        rw [if_pos hx, if_pos hy]
        refine ⟨?_, i2⟩
        show OX ++ [idx (X.getD k 0) SX] = OX ++ [idx (Y.getD k 0) SY]
        rw [← g2, ← hy', ← (x1 i g1).2, ← (y1 i g1).2]
      · have hy : ¬ Y.getD k 0 ∈ SY := by
          intro hy
          obtain ⟨i, g1, g2⟩ := y2 _ hy
          have hx' := (h i k (by omega) (by omega)).2 g2
          exact hx (by rw [← hx']; exact (x1 i g1).1)
        rw [if_neg hx, if_neg hy]
        refine ⟨?_, ?_⟩
        · show OX ++ [(SX.length : Int)] = OX ++ [(SY.length : Int)]
          rw [i2]
        · simp [i2]
  have := (key X.length (Nat.le_refl _)).1
  rw [List.take_length] at this
  rw [canon, this, hl, List.take_length]; rfl

def rng (n : Nat) : List Int := (List.range n).map fun x : Nat => (x : Int)
theorem rng_succ (n : Nat) : rng (n + 1) = rng n ++ [(n : Int)] := by simp [rng, List.range_succ]
theorem rng_len (n : Nat) : (rng n).length = n := by simp [rng]
theorem rng_mem {n : Nat} {x : Int} : x ∈ rng n ↔ 0 ≤ x ∧ x < n := by
  simp only [rng, List.mem_map, List.mem_range]
  constructor
  · rintro ⟨a, h, rfl⟩; omega
  · rintro ⟨h1, h2⟩; exact ⟨x.toNat, by omega, by omega⟩
theorem rng_get {n i : Nat} (h : i < n) : (rng n).getD i 0 = i := by simp [rng, h]
theorem rng_idx {n : Nat} {x : Int} (h1 : 0 ≤ x) (h2 : x < n) : idx x (rng n) = x := by
  have hk : x.toNat < (rng n).length := by rw [rng_len]; omega
  have := idx_some (x := x) hk (fun i hi => by rw [rng_get (by omega)]; omega) (by rw [rng_get (by omega)]; omega)
  rw [this]; omega
theorem fold_part : ∀ (L : List Int) (n : Nat) (out : List Int), okP n L = true → ∃ m, L.foldl cstep (rng n, out) = (rng m, out ++ L)
  | [], n, out, _ => ⟨n, by simp⟩
  | x :: L, n, out, h => by
    rw [okP, Bool.and_eq_true] at h
    obtain ⟨h1, h2⟩ := inR_of h.1
    rw [List.foldl_cons]
    by_cases hx : x < n
    · have hm : x ∈ rng n := rng_mem.2 ⟨h1, hx⟩
      have e : max (n : Int) (x + 1) = n := by omega
      have h3 := h.2
      rw [e] at h3
      obtain ⟨m, hm'⟩ := fold_part L n (out ++ [x]) h3
      refine ⟨m, ?_⟩
      have : cstep (rng n, out) x = (rng n, out ++ [x]) := by
        unfold cstep
        rw [if_pos hm, rng_idx h1 hx]
      rw [this, hm']
      simp
    · have hm : ¬ x ∈ rng n := fun h => hx (rng_mem.1 h).2
      have ex : x = n := by omega
      have e : max (n : Int) (x + 1) = ((n + 1 : Nat) : Int) := by omega
      have h3 := h.2
      rw [e] at h3
      obtain ⟨m, hm'⟩ := fold_part L (n + 1) (out ++ [x]) h3
      refine ⟨m, ?_⟩
      have : cstep (rng n, out) x = (rng (n + 1), out ++ [x]) := by
        unfold cstep
        rw [if_neg hm, rng_succ]
        simp only [rng_len, ex]
      rw [this, hm']
      simp
theorem canon_part {A : List Int} (h : isPart A = true) : canon A = A := by
  rw [isPart, Bool.and_eq_true] at h
  obtain ⟨m, hm⟩ := fold_part A 0 [] h.1
  have : rng 0 = [] := rfl
  rw [this] at hm
  rw [canon, cst, hm]
  simp

def Ref (A B : List Int) : Prop := ∀ i k, k < i → i < A.length → A.getD i 0 = A.getD k 0 → B.getD i 0 = B.getD k 0
theorem both_get {A B : List Int} {k : Nat} (hl : A.length = B.length) (hk : k < A.length) : (both A B).getD k 0 = A.getD k 0 * 8 + B.getD k 0 := by
  have hk2 : k < B.length := by omega
  simp [both, List.getElem?_zipWith, hk, hk2]
theorem meet_iff {A B : List Int} (h : pairB A B = true) : meet A B = A ↔ Ref A B := by
  obtain ⟨pa, pb, hl⟩ := pairB_t h
  have hbl := both_length hl
  rw [meet, if_pos h]
  have hpat : ∀ i k, i < A.length → k < A.length → ((both A B).getD i 0 = (both A B).getD k 0 ↔ (A.getD i 0 = A.getD k 0 ∧ B.getD i 0 = B.getD k 0)) := by
    intro i k hi hk
    rw [both_get hl hi, both_get hl hk]
    have b1 := isPart_bound pb (i := i) (by omega)
    have b2 := isPart_bound pb (i := k) (by omega)
    constructor
    · intro e; omega
    · rintro ⟨e1, e2⟩; rw [e1, e2]
  constructor
  · intro e i k hki hi ha
    have h1 : (canon (both A B)).getD i 0 = (canon (both A B)).getD k 0 := by rw [e]; exact ha
    have h2 := canon_inj (by omega) (by omega) h1
    exact ((hpat i k hi (by omega)).1 h2).2
  · intro hr
    have hr' : ∀ i k, i < A.length → k < A.length → A.getD i 0 = A.getD k 0 → B.getD i 0 = B.getD k 0 := by
      intro i k hi hk e
      rcases Nat.lt_trichotomy k i with h | h | h
      · exact hr i k h hi e
      · rw [h]
      · exact (hr k i h hk e.symm).symm
    rw [canon_congr (Y := A) (by omega) (fun i k hi hk => ?_), canon_part pa]
    rw [hpat i k (by omega) (by omega)]
    exact ⟨fun e => e.1, fun e => ⟨e, hr' i k (by omega) (by omega) e⟩⟩
end Go.Sh

/-
  Contracts: does a partition refine another? Of the reference and of the program.
-/
namespace Go.Sh
set_option linter.unusedSimpArgs false
set_option linter.unusedVariables false
open Go Go.Proofs

open Classical in
noncomputable def refB (A B : List Int) : Bool := pairB A B && decide (Ref A B)

open Classical in
theorem Tryd.implRefines_ok (A B : List Int) (hA : A.length ≤ 1048576) (hB : B.length ≤ 1048576) : PCall Tryd.prog 39 [ri A, ri B] (.val (.bool (refB A B))) := by
  refine FCall.pcall (R := fun r _ => r = .val (.bool (refB A B))) ?_ 0 (by rintro r H rfl; exact view_bool)
  refine FCall.of_body Tryd.func39 rfl (by kernel_rfl) (by simp [Tryd.ntmps39]) ?_
  refine SW_of_vc Tryd.mixed _ _ _ (by kernel_rfl) ?_
  have w1 := Tryd.arePartitions_ok A B hA hB
  rcases Bool.eq_false_or_eq_true (pairB A B) with h | h
  · rw [h] at w1
    have hl := meet_length h
    have w2 := Tryd.implMeet_ok A B hA hB
    have w3 := Tryd.slicesEqual_ok (meet A B) A (by omega) (by omega)
    have e : refB A B = decide (meet A B = A) := by
      rw [refB, h, Bool.true_and]
      exact decide_eq_decide.2 (meet_iff h).symm
    rw [e]
    simp (disch := omega) only [Tryd.ntmps39, Tryd.results39, go_sem]
    refine w1.callV 0 (viewL_cons_of (view_rowL (by first | rfl | simp [marks_length, canon_length] | omega)) (viewL_cons_of (view_rowL (by first | rfl | simp [marks_length, canon_length] | omega)) viewL_nil_of)) ?_
    simp (disch := omega) only [Tryd.ntmps39, Tryd.results39, go_sem]
    refine w2.callV 0 (viewL_cons_of (view_rowL (by first | rfl | simp [marks_length, canon_length] | omega)) (viewL_cons_of (view_rowL (by first | rfl | simp [marks_length, canon_length] | omega)) viewL_nil_of)) ?_
    simp (disch := omega) only [Tryd.ntmps39, Tryd.results39, go_sem]
    refine w3.callV 0 (viewL_cons_of (view_rowL (by first | rfl | simp [marks_length, canon_length] | omega)) (viewL_cons_of (view_rowL (by first | rfl | simp [marks_length, canon_length] | omega)) viewL_nil_of)) ?_
    simp (disch := omega) only [Tryd.ntmps39, Tryd.results39, go_sem]
    exact Fin.val (by congr)
  · rw [h] at w1
    simp (disch := omega) only [Tryd.ntmps39, Tryd.results39, go_sem]
    refine w1.callV 0 (viewL_cons_of (view_rowL (by first | rfl | simp [marks_length, canon_length] | omega)) (viewL_cons_of (view_rowL (by first | rfl | simp [marks_length, canon_length] | omega)) viewL_nil_of)) ?_
    simp (disch := omega) only [Tryd.ntmps39, Tryd.results39, go_sem]
    exact Fin.val (by rw [refB, h]; rfl)

open Classical in
set_option maxHeartbeats 4000000 in
theorem Tryd.specRefines_ok (A B : List Int) (hA : A.length ≤ 1048576) (hB : B.length ≤ 1048576) : PCall Tryd.prog 40 [ri A, ri B] (.val (.bool (refB A B))) := by
  refine FCall.pcall (R := fun r _ => r = .val (.bool (refB A B))) ?_ 0 (by rintro r H rfl; exact view_bool)
  refine FCall.of_body Tryd.func40 rfl (by kernel_rfl) (by simp [Tryd.ntmps40]) ?_
  refine SW_of_vc Tryd.mixed _ _ _ (by kernel_rfl) ?_
  have w1 := Tryd.specIsPartition_ok A hA
  have w2 := Tryd.specIsPartition_ok B hB
  rcases Bool.eq_false_or_eq_true (isPart A) with ha | ha
  · rcases Bool.eq_false_or_eq_true (isPart B) with hb | hb
    · rw [ha] at w1
      rw [hb] at w2
      by_cases hl : A.length = B.length
      · have hpr : pairB A B = true := by simp [pairB, ha, hb, hl]
        have e : refB A B = decide (Ref A B) := by rw [refB, hpr, Bool.true_and]
        rw [e]
        simp (disch := omega) only [Tryd.ntmps40, Tryd.results40, go_sem]
        refine w1.callV 0 (viewL_cons_of (view_rowL (by first | rfl | simp [marks_length, canon_length] | omega)) viewL_nil_of) ?_
        simp (disch := omega) only [Tryd.ntmps40, Tryd.results40, go_sem]
        refine w2.callV 0 (viewL_cons_of (view_rowL (by first | rfl | simp [marks_length, canon_length] | omega)) viewL_nil_of) ?_
        simp (disch := omega) only [Tryd.ntmps40, Tryd.results40, go_sem]
        refine LoopW.loop (fun i : Nat => ⟨ofL [(0, ri A), (1, ri B), (5, .val (.int .i64 i))], hp [] 0⟩) (fun i => i ≤ A.length ∧ ∀ x y, y < x → x < i → A.getD x 0 = A.getD y 0 → B.getD x 0 = B.getD y 0) (fun i => A.length - i) 0 ⟨by omega, by intro x y _ h; omega⟩ (Wk.of (by simp only [go_sem, ↓List.forall_mem_cons, List.not_mem_nil, false_implies, implies_true, and_true, true_and, and_self, ri_eq, Int.natCast_add, Int.cast_ofNat_Int]; try simp) rfl) ?_
        rintro i ⟨hi, hii⟩
        refine SW_of_vc Tryd.mixed _ _ _ (by kernel_rfl) ?_
        by_cases hlt : i < A.length
        · simp (disch := omega) only [Tryd.ntmps40, Tryd.results40, go_sem]
          refine LoopW.loop (fun k : Nat => ⟨ofL [(0, ri A), (1, ri B), (5, .val (.int .i64 i)), (6, .val (.int .i64 k))], hp [] 0⟩) (fun k => k ≤ i ∧ ∀ y, y < k → A.getD i 0 = A.getD y 0 → B.getD i 0 = B.getD y 0) (fun k => i - k) 0 ⟨by omega, by intro y h; omega⟩ (Wk.of (by simp only [go_sem, ↓List.forall_mem_cons, List.not_mem_nil, false_implies, implies_true, and_true, true_and, and_self, ri_eq, Int.natCast_add, Int.cast_ofNat_Int]; try simp) rfl) ?_
          rintro k ⟨hk, hkk⟩
          refine SW_of_vc Tryd.mixed _ _ _ (by kernel_rfl) ?_
          by_cases hki : k < i
          · by_cases h1 : A.getD i 0 = A.getD k 0
            · by_cases h2 : B.getD i 0 = B.getD k 0
              · simp (disch := omega) only [Tryd.ntmps40, Tryd.results40, go_sem]
                refine ⟨k + 1, ⟨by omega, fun y hy => ?_⟩, by omega, Wk.of (by simp only [go_sem, ↓List.forall_mem_cons, List.not_mem_nil, false_implies, implies_true, and_true, true_and, and_self, ri_eq, Int.natCast_add, Int.cast_ofNat_Int]; try simp) rfl⟩
                rcases Nat.lt_succ_iff_lt_or_eq.mp hy with h | rfl
                · exact hkk y h
                · exact fun _ => h2
              · simp (disch := omega) only [Tryd.ntmps40, Tryd.results40, go_sem]
                refine Fin.val ?_
                have : ¬ Ref A B := fun hr => h2 (hr i k hki hlt h1)
                rw [decide_eq_false this]
            · simp (disch := omega) only [Tryd.ntmps40, Tryd.results40, go_sem]
              refine ⟨k + 1, ⟨by omega, fun y hy => ?_⟩, by omega, Wk.of (by simp only [go_sem, ↓List.forall_mem_cons, List.not_mem_nil, false_implies, implies_true, and_true, true_and, and_self, ri_eq, Int.natCast_add, Int.cast_ofNat_Int]; try simp) rfl⟩
              rcases Nat.lt_succ_iff_lt_or_eq.mp hy with h | rfl
              · exact hkk y h
              · exact fun e => absurd e h1
          · obtain rfl : k = i := by omega
            simp (disch := omega) only [Tryd.ntmps40, Tryd.results40, go_sem]
            refine ⟨k + 1, ⟨by omega, fun x y hyx hx => ?_⟩, by omega, Wk.of (by simp only [go_sem, ↓List.forall_mem_cons, List.not_mem_nil, false_implies, implies_true, and_true, true_and, and_self, ri_eq, Int.natCast_add, Int.cast_ofNat_Int]; try simp) rfl⟩
            rcases Nat.lt_succ_iff_lt_or_eq.mp hx with h | rfl
            · exact hii x y hyx h
            · exact hkk y hyx
        · simp (disch := omega) only [Tryd.ntmps40, Tryd.results40, go_sem]
          refine Fin.val ?_
          have : Ref A B := fun x y hyx hx => hii x y hyx (by omega)
          rw [decide_eq_true this]
      · simp (disch := omega) only [Tryd.ntmps40, Tryd.results40, go_sem]
        refine w1.callV 0 (viewL_cons_of (view_rowL (by first | rfl | simp [marks_length, canon_length] | omega)) viewL_nil_of) ?_
        simp (disch := omega) only [Tryd.ntmps40, Tryd.results40, go_sem]
        refine w2.callV 0 (viewL_cons_of (view_rowL (by first | rfl | simp [marks_length, canon_length] | omega)) viewL_nil_of) ?_
        simp (disch := omega) only [Tryd.ntmps40, Tryd.results40, go_sem]
        exact Fin.val (by simp [refB, pairB, hl])
    · rw [ha] at w1
      rw [hb] at w2
      simp (disch := omega) only [Tryd.ntmps40, Tryd.results40, go_sem]
      refine w1.callV 0 (viewL_cons_of (view_rowL (by first | rfl | simp [marks_length, canon_length] | omega)) viewL_nil_of) ?_
      simp (disch := omega) only [Tryd.ntmps40, Tryd.results40, go_sem]
      refine w2.callV 0 (viewL_cons_of (view_rowL (by first | rfl | simp [marks_length, canon_length] | omega)) viewL_nil_of) ?_
      simp (disch := omega) only [Tryd.ntmps40, Tryd.results40, go_sem]
      exact Fin.val (by simp [refB, pairB, hb])
  · rw [ha] at w1
    simp (disch := omega) only [Tryd.ntmps40, Tryd.results40, go_sem]
    refine w1.callV 0 (viewL_cons_of (view_rowL (by first | rfl | simp [marks_length, canon_length] | omega)) viewL_nil_of) ?_
    simp (disch := omega) only [Tryd.ntmps40, Tryd.results40, go_sem]
    exact Fin.val (by simp [refB, pairB, ha])

end Go.Sh

/-
  Contracts: joins of partitions. Of the reference and of the program.
-/
namespace Go.Sh
set_option linter.unusedSimpArgs false
set_option linter.unusedVariables false
open Go Go.Proofs

def joinB (A B : List Int) (x y : Nat) : Bool := decide (A.getD x 0 = A.getD y 0) || decide (B.getD x 0 = B.getD y 0)
theorem joinB_sym (A B : List Int) (x y : Nat) : joinB A B x y = joinB A B y x := by
  simp only [joinB]
  rw [decide_eq_decide.2 (eq_comm (a := A.getD x 0)), decide_eq_decide.2 (eq_comm (a := B.getD x 0))]
def joinD (A B : List Int) (x y : Nat) : Bool := !decide (x = y) && joinB A B x y
theorem joinD_sym (A B : List Int) (x y : Nat) : joinD A B x y = joinD A B y x := by
  simp only [joinD]
  rw [joinB_sym, decide_eq_decide.2 (eq_comm (a := x))]
def joinM (A B : List Int) : List (List Int) := genM A.length fun x y => bint (joinD A B x y)
theorem joinM_length (A B : List Int) : (joinM A B).length = A.length := (genM_sq _ _).1
theorem joinM_wm {A B : List Int} (h : 1 ≤ A.length ∧ A.length ≤ 8) : WM (joinM A B) := by
  have hs := genM_sq A.length fun x y => bint (joinD A B x y)
  have hb : ∀ b, 0 ≤ bint b ∧ bint b ≤ 1 := fun b => by cases b <;> simp [bint]
  have e1 : (joinM A B).length = A.length := hs.1
  refine ⟨by rw [e1]; omega, fun i hi => by rw [e1] at hi ⊢; exact hs.2 i hi, fun i k hi hk => ?_, fun i hi => ?_⟩
  · rw [e1] at hi hk
    rw [joinM, genM_at hi hk, genM_at hk hi, joinD_sym]
    have := hb (joinD A B k i)
    exact ⟨by omega, rfl⟩
  · rw [e1] at hi
    rw [joinM, genM_at hi hi]
    simp [joinD, bint]
theorem joinM_pB {A B : List Int} {x y : Nat} (hx : x < A.length) (hy : y < A.length) : pB (joinM A B) x y = joinD A B x y := by
  rw [pB, joinM, genM_at hx hy]
  cases joinD A B x y <;> simp [bint]
noncomputable def jn (A B : List Int) : List Int := if pairB A B = true then comp A.length (joinB A B) else []
theorem jn_t {A B : List Int} (h : pairB A B = true) : jn A B = comp A.length (joinB A B) := by rw [jn, if_pos h]
theorem jn_f {A B : List Int} (h : pairB A B = false) : jn A B = [] := by rw [jn, if_neg (by rw [h]; simp)]
theorem join_ok {n : Nat} {A B : List Int} : CompL n (joinB A B) (comp n (joinB A B)) := comp_ok fun x y _ _ h => by rw [joinB_sym]; exact h
theorem jn_length {A B : List Int} (h : pairB A B = true) : (jn A B).length = A.length := by rw [jn_t h]; exact join_ok.len
theorem jn_pcomp {A B : List Int} (h : 1 ≤ A.length ∧ A.length ≤ 8) : pcomp (joinM A B) = comp A.length (joinB A B) := by
  have hw := joinM_wm (B := B) h
  rw [pcomp_t hw, joinM_length]
  have hc := comp_ok (n := A.length) (B := pB (joinM A B)) (by have := hw.sym; rwa [joinM_length] at this)
  refine comp_congr hc join_ok (fun x y hx hy hb => ?_) (fun x y hx hy hb => ?_)
  · rw [joinM_pB hx hy, joinD, Bool.and_eq_true] at hb
    exact .one hx hy hb.2
  · by_cases e : x = y
    · subst e; exact .refl
    · refine .one hx hy ?_
      rw [joinM_pB hx hy, joinD, hb]; simp [e]

set_option maxHeartbeats 4000000 in
theorem Tryd.implJoin_f (A B : List Int) (hA : A.length ≤ 1048576) (hB : B.length ≤ 1048576) (h : pairB A B = true) : FCall Tryd.prog 35 [ri A, ri B] (FlatRes A.length 1 (ints (jn A B))) := by
  obtain ⟨pa, pb, hl⟩ := pairB_t h
  have l12 := isPart_len pa
  obtain ⟨l1, l2⟩ := l12
  have w1 := Tryd.arePartitions_ok A B hA hB
  rw [h] at w1
  have hw := joinM_wm (B := B) ⟨l1, l2⟩
  have hml := joinM_length A B
  have w3 := Tryd.implPC_one (joinM A B) (by rw [hml]; omega) (fun i hi => by rw [hw.2.1 i hi, hml]; omega) hw
  rw [jn_pcomp ⟨l1, l2⟩, hml] at w3
  rw [jn_t h]
  refine FCall.of_body Tryd.func35 rfl (by kernel_rfl) (by simp [Tryd.ntmps35]) ?_
  refine SW_of_vc Tryd.mixed _ _ _ (by kernel_rfl) ?_
  simp (disch := omega) only [Tryd.ntmps35, Tryd.results35, go_sem]
  refine w1.callV 0 (viewL_cons_of (view_rowL (by first | rfl | simp [marks_length, canon_length] | omega)) (viewL_cons_of (view_rowL (by first | rfl | simp [marks_length, canon_length] | omega)) viewL_nil_of)) ?_
  simp (disch := omega) only [Tryd.ntmps35, Tryd.results35, go_sem]
  refine (Tryd.square_one A.length hA).callMat (mi_vals _) 0 (viewL_cons_of (view_int) viewL_nil_of) ?_
  simp (disch := omega) only [Tryd.ntmps35, Tryd.results35, go_sem, zs_length]
  generalize hn : A.length = n at *
  refine LoopW.loop (fun p : Nat × List (List Int) => ⟨ofL [(0, .row n false (ints A)), (1, .row B.length false (ints B)), (5, .own 0 0 n n 1 false), (16, .val (.int .i64 n)), (17, .val (.int .i64 p.1))], hx [.mat 0 (mi p.2)] (n + 1)⟩)
    (fun p => p.1 ≤ n ∧ SqI n p.2 ∧ (∀ x y, x < p.1 → y < n → mat p.2 x y = bint (joinD A B x y)) ∧ ∀ x y, p.1 ≤ x → mat p.2 x y = 0) (fun p => n - p.1) (0, zs n) ⟨by simp, .zs _, fun x y h => by simp at h, fun x y _ => zs_at⟩
    (Wk.ofX (by simp only [go_sem, ↓List.forall_mem_cons, List.not_mem_nil, false_implies, implies_true, and_true, true_and, and_self, ri_eq, Int.natCast_add, Int.cast_ofNat_Int, hn]; try simp) (by simp only [List.forall_mem_cons]; exact ⟨.self, by simp⟩) (Nat.le_refl _)) ?_
  rintro ⟨i, M⟩ ⟨hi, hM, hMM, hM0⟩
  simp only at hi hM hMM hM0
  refine SW_of_vc Tryd.mixed _ _ _ (by kernel_rfl) ?_
  by_cases hlt : i < n
  · simp (disch := omega) only [Tryd.ntmps35, Tryd.results35, go_sem, hn]
    refine LoopW.loop (fun p : Nat × List (List Int) => ⟨ofL [(0, .row n false (ints A)), (1, .row B.length false (ints B)), (5, .own 0 0 n n 1 false), (6, .val (.int .i64 i)), (16, .val (.int .i64 n)), (17, .val (.int .i64 i)), (21, .val (.int .i64 n)), (22, .val (.int .i64 p.1))], hx [.mat 0 (mi p.2)] (n + 1)⟩)
      (fun p => p.1 ≤ n ∧ SqI n p.2 ∧ (∀ x y, (x < i ∨ (x = i ∧ y < p.1)) → y < n → mat p.2 x y = bint (joinD A B x y)) ∧ ∀ x y, (i < x ∨ (x = i ∧ p.1 ≤ y)) → mat p.2 x y = 0) (fun p => n - p.1) (0, M) ⟨by simp, hM, fun x y h => hMM x y (by simpa using h), fun x y h => hM0 x y (by omega)⟩
      (Wk.ofX (by simp only [go_sem, ↓List.forall_mem_cons, List.not_mem_nil, false_implies, implies_true, and_true, true_and, and_self, ri_eq, Int.natCast_add, Int.cast_ofNat_Int, hn]; try simp) (by simp only [List.forall_mem_cons]; exact ⟨.self, by simp⟩) (Nat.le_refl _)) ?_
    rintro ⟨k, Y⟩ ⟨hk, hY, hYY, hY0⟩
    simp only at hk hY hYY hY0
    have hYi := hY.2 i hlt
    have hY1 := hY.1
    refine SW_of_vc Tryd.mixed _ _ _ (by kernel_rfl) ?_
    by_cases hlt2 : k < n
    · have g1 := ints_get (L := A) (k := i) (by omega)
      have g2 := ints_get (L := A) (k := k) (by omega)
      have g3 := ints_get (L := B) (k := i) (by omega)
      have g4 := ints_get (L := B) (k := k) (by omega)
      have hset := fun x y => mset_at Y i k 1 (k := x) (d := y) (by omega) (by omega)
      have hput : joinD A B i k = true → (∀ x y, (x < i ∨ (x = i ∧ y < k + 1)) → y < n → mat (mset Y i k 1) x y = bint (joinD A B x y)) ∧ ∀ x y, (i < x ∨ (x = i ∧ k + 1 ≤ y)) → mat (mset Y i k 1) x y = 0 := by
        intro hj
        refine ⟨fun x y h hy => ?_, fun x y h => ?_⟩
        · rw [hset]
          split
          · rename_i e; rw [e.1, e.2, hj]; rfl
          · exact hYY x y (by omega) hy
        · rw [hset, if_neg (by omega)]
          exact hY0 x y (by omega)
      have hskip : joinD A B i k = false → (∀ x y, (x < i ∨ (x = i ∧ y < k + 1)) → y < n → mat Y x y = bint (joinD A B x y)) ∧ ∀ x y, (i < x ∨ (x = i ∧ k + 1 ≤ y)) → mat Y x y = 0 := by
        intro hj
        refine ⟨fun x y h hy => ?_, fun x y h => hY0 x y (by omega)⟩
        by_cases e : x = i ∧ y = k
        · rw [e.1, e.2, hj, hY0 i k (by omega)]; rfl
        · exact hYY x y (by omega) hy
      have hjd : joinD A B i k = (!decide (i = k) && (decide (A.getD i 0 = A.getD k 0) || decide (B.getD i 0 = B.getD k 0))) := rfl
      generalize A.getD i 0 = a1 at *
      generalize A.getD k 0 = a2 at *
      generalize B.getD i 0 = b1 at *
      generalize B.getD k 0 = b2 at *
      by_cases e0 : i = k
      · obtain ⟨k1, k2⟩ := hskip (by rw [hjd]; simp [e0])
        simp (disch := omega) only [Tryd.ntmps35, Tryd.results35, go_sem, hn]
        exact ⟨(k + 1, Y), ⟨hlt2, hY, k1, k2⟩, by show n - (k + 1) < n - k; omega, (Wk.ofX (by simp only [go_sem, ↓List.forall_mem_cons, List.not_mem_nil, false_implies, implies_true, and_true, true_and, and_self, ri_eq, Int.natCast_add, Int.cast_ofNat_Int]; try simp) (by simp only [List.forall_mem_cons]; exact ⟨.self, by simp⟩) (Nat.le_refl _))⟩
      · by_cases e1 : a1 = a2
        · obtain ⟨k1, k2⟩ := hput (by rw [hjd]; simp [e0, e1])
          simp (disch := omega) only [Tryd.ntmps35, Tryd.results35, go_sem, hn, g1, g2, outerB_getI, hYi, xmap_rowI, xset_rowI, hY1]
          exact ⟨(k + 1, mset Y i k 1), ⟨hlt2, hY.set _ _ _, k1, k2⟩, by show n - (k + 1) < n - k; omega, (Wk.ofX (by simp only [go_sem, ↓List.forall_mem_cons, List.not_mem_nil, false_implies, implies_true, and_true, true_and, and_self, ri_eq, Int.natCast_add, Int.cast_ofNat_Int]; try simp) (by simp only [List.forall_mem_cons]; exact ⟨.self, by simp⟩) (Nat.le_refl _))⟩
        · by_cases e2 : b1 = b2
          · obtain ⟨k1, k2⟩ := hput (by rw [hjd]; simp [e0, e2])
            simp (disch := omega) only [Tryd.ntmps35, Tryd.results35, go_sem, hn, g1, g2, g3, g4, outerB_getI, hYi, xmap_rowI, xset_rowI, hY1]
            exact ⟨(k + 1, mset Y i k 1), ⟨hlt2, hY.set _ _ _, k1, k2⟩, by show n - (k + 1) < n - k; omega, (Wk.ofX (by simp only [go_sem, ↓List.forall_mem_cons, List.not_mem_nil, false_implies, implies_true, and_true, true_and, and_self, ri_eq, Int.natCast_add, Int.cast_ofNat_Int]; try simp) (by simp only [List.forall_mem_cons]; exact ⟨.self, by simp⟩) (Nat.le_refl _))⟩
          · obtain ⟨k1, k2⟩ := hskip (by rw [hjd]; simp [e1, e2])
            simp (disch := omega) only [Tryd.ntmps35, Tryd.results35, go_sem, hn, g1, g2, g3, g4]
            exact ⟨(k + 1, Y), ⟨hlt2, hY, k1, k2⟩, by show n - (k + 1) < n - k; omega, (Wk.ofX (by simp only [go_sem, ↓List.forall_mem_cons, List.not_mem_nil, false_implies, implies_true, and_true, true_and, and_self, ri_eq, Int.natCast_add, Int.cast_ofNat_Int]; try simp) (by simp only [List.forall_mem_cons]; exact ⟨.self, by simp⟩) (Nat.le_refl _))⟩
    · simp (disch := omega) only [Tryd.ntmps35, Tryd.results35, go_sem, hn]
      exact ⟨(i + 1, Y), ⟨hlt, hY, fun x y h hy => hYY x y (by omega) hy, fun x y h => hY0 x y (by omega)⟩, by show n - (i + 1) < n - i; omega, (Wk.ofX (by simp only [go_sem, ↓List.forall_mem_cons, List.not_mem_nil, false_implies, implies_true, and_true, true_and, and_self, ri_eq, Int.natCast_add, Int.cast_ofNat_Int]; try simp) (by simp only [List.forall_mem_cons]; exact ⟨.self, by simp⟩) (Nat.le_refl _))⟩
  · have he : M = joinM A B := by
      have := genM_sq A.length fun x y => bint (joinD A B x y)
      rw [hn] at this
      refine hM.ext (by rw [joinM, hn]; exact this) fun x y hx hy => ?_
      rw [hMM x y (by omega) hy, joinM, genM_at (by omega) (by omega)]
    subst he
    simp (disch := omega) only [Tryd.ntmps35, Tryd.results35, go_sem, hn]
    refine w3.callOne (ints_vals _) 2 (viewL_cons_of (view_mi .self (by rw [joinM_length, hn])) viewL_nil_of) ?_
    simp (disch := omega) only [Tryd.ntmps35, Tryd.results35, go_sem, hn]
    exact fin_ints join_ok.len.symm (by rw [hx_map, xmap_blk, if_pos rfl])
theorem Tryd.implJoin_nil (A B : List Int) (hA : A.length ≤ 1048576) (hB : B.length ≤ 1048576) (h : pairB A B = false) : FCall Tryd.prog 35 [ri A, ri B] (fun r _ => r = .val (.slice none 0 0)) := by
  have w1 := Tryd.arePartitions_ok A B hA hB
  rw [h] at w1
  refine FCall.of_body Tryd.func35 rfl (by kernel_rfl) (by simp [Tryd.ntmps35]) ?_
  refine SW_of_vc Tryd.mixed _ _ _ (by kernel_rfl) ?_
  simp (disch := omega) only [Tryd.ntmps35, Tryd.results35, go_sem]
  refine w1.callV 0 (viewL_cons_of (view_rowL (by first | rfl | simp [marks_length, canon_length] | omega)) (viewL_cons_of (view_rowL (by first | rfl | simp [marks_length, canon_length] | omega)) viewL_nil_of)) ?_
  simp (disch := omega) only [Tryd.ntmps35, Tryd.results35, go_sem]
  exact Fin.val rfl
theorem Tryd.implJoin_one (A B : List Int) (hA : A.length ≤ 1048576) (hB : B.length ≤ 1048576) (h : pairB A B = true) : FCall Tryd.prog 35 [ri A, ri B] (OneRes A.length 1 (ints (jn A B))) := (Tryd.implJoin_f A B hA hB h).one
theorem Tryd.implJoin_ok (A B : List Int) (hA : A.length ≤ 1048576) (hB : B.length ≤ 1048576) : PCall Tryd.prog 35 [ri A, ri B] (ri (jn A B)) := by
  rcases Bool.eq_false_or_eq_true (pairB A B) with h | h
  · exact (Tryd.implJoin_f A B hA hB h).pcall 2 (fun _ _ h => flat_view h)
  · rw [jn_f h]; exact (Tryd.implJoin_nil A B hA hB h).pcall 0 (by rintro r H rfl; exact view_nil)
end Go.Sh

/-
  Labels by first occurrence are a partition.
-/
namespace Go.Sh
set_option linter.unusedSimpArgs false
set_option linter.unusedVariables false
open Go Go.Proofs

def nxtM : Int → List Int → Int
  | nx, [] => nx
  | nx, x :: l => nxtM (max nx (x + 1)) l
theorem okP_append : ∀ (A : List Int) (nx x : Int), okP nx (A ++ [x]) = (okP nx A && inR x 0 (nxtM nx A))
  | [], nx, x => by simp [okP, nxtM]
  | a :: A, nx, x => by
    rw [List.cons_append, okP, okP_append A, okP, nxtM, Bool.and_assoc]
theorem nxtM_append : ∀ (A : List Int) (nx x : Int), nxtM nx (A ++ [x]) = max (nxtM nx A) (x + 1)
  | [], nx, x => by simp [nxtM]
  | a :: A, nx, x => by rw [List.cons_append, nxtM, nxtM_append A, nxtM]
theorem cst_ok (X : List Int) : ∀ k, k ≤ X.length → okP 0 (cst (X.take k)).2 = true ∧ nxtM 0 (cst (X.take k)).2 = (cst (X.take k)).1.length
  | 0, _ => by simp [cst_zero, okP, nxtM]
  | k + 1, hk => by
    obtain ⟨h1, h2⟩ := cst_ok X k (by omega)
    rw [cst_succ (L := X) (by omega)]
    generalize cst (X.take k) = st at *
    obtain ⟨S, O⟩ := st
    simp only at h1 h2 ⊢
    unfold cstep
    simp only
    by_cases hx : X.getD k 0 ∈ S
    · rw [if_pos hx]
      have i1 := idx_nonneg hx
      have i2 : idx (X.getD k 0) S < S.length := by
        rcases idx_lt (x := X.getD k 0) (L := S) with h | h
        · exact h
        · rw [h] at hx; simp at hx
      refine ⟨?_, ?_⟩
      · show okP 0 (O ++ [idx (X.getD k 0) S]) = true
        rw [okP_append, h1, h2, inR_tt i1 (by omega)]; rfl
      · show nxtM 0 (O ++ [idx (X.getD k 0) S]) = (S.length : Int)
        rw [nxtM_append, h2]; omega
    · rw [if_neg hx]
      refine ⟨?_, ?_⟩
      · show okP 0 (O ++ [(S.length : Int)]) = true
        rw [okP_append, h1, h2, inR_tt (by omega) (by omega)]; rfl
      · show nxtM 0 (O ++ [(S.length : Int)]) = ((S ++ [X.getD k 0]).length : Int)
        rw [nxtM_append, h2, List.length_append]
        simp only [List.length_cons, List.length_nil]
        omega
theorem canon_isPart {X : List Int} (h1 : 1 ≤ X.length) (h2 : X.length ≤ 8) : isPart (canon X) = true := by
  have := (cst_ok X X.length (Nat.le_refl _)).1
  rw [List.take_length] at this
  rw [isPart, canon_length, inR_tt (by omega) (by omega)]
  show (okP 0 (cst X).2 && true) = true
  rw [this]; rfl
end Go.Sh

/-
  Contracts: what a partition costs. Of the reference and of the program; the law.
-/
namespace Go.Sh
set_option linter.unusedSimpArgs false
set_option linter.unusedVariables false
open Go Go.Proofs

def ct (M : List (List Int)) (L : List Int) (i k : Nat) : Int := if L.getD i 0 = L.getD k 0 then max 0 (-mat M i k) else max 0 (mat M i k)
def cr (M : List (List Int)) (L : List Int) (i : Nat) : Nat → Int
  | 0 => 0
  | k + 1 => cr M L i k + ct M L i k
def cc (M : List (List Int)) (L : List Int) : Nat → Int
  | 0 => 0
  | i + 1 => cc M L i + cr M L i i
theorem ct_b {M : List (List Int)} {L : List Int} (h : WM M) {i k : Nat} (hi : i < M.length) (hk : k < M.length) : 0 ≤ ct M L i k ∧ ct M L i k ≤ 1000 := by
  have := (h.2.2.1 i k hi hk).1
  unfold ct
  split <;> omega
theorem cr_b {M : List (List Int)} {L : List Int} (h : WM M) {i : Nat} (hi : i < M.length) : ∀ k, k ≤ M.length → 0 ≤ cr M L i k ∧ cr M L i k ≤ 1000 * k
  | 0, _ => by simp [cr]
  | k + 1, hk => by
    have h1 := cr_b h hi (L := L) k (by omega)
    have h2 := ct_b (L := L) h hi (k := k) (by omega)
    rw [cr]; omega
theorem cc_b {M : List (List Int)} {L : List Int} (h : WM M) : ∀ i, i ≤ M.length → 0 ≤ cc M L i ∧ cc M L i ≤ 8000 * i
  | 0, _ => by simp [cc]
  | i + 1, hi => by
    have h1 := cc_b h (L := L) i (by omega)
    have h2 := cr_b (L := L) h (i := i) (by omega) i (by omega)
    have := h.1
    rw [cc]; omega
noncomputable def pcost (M : List (List Int)) (L : List Int) : Int := if isWM M = true ∧ isPart L = true ∧ L.length = M.length then cc M L L.length else -1
end Go.Sh

/-
  Contracts: does a partition keep constraints? Of the reference and of the program.
-/
namespace Go.Sh
set_option linter.unusedSimpArgs false
set_option linter.unusedVariables false
open Go Go.Proofs

def kp (L : List Int) (c : Con) : Bool := inR c.1 0 ((L.length : Int) - 1) && (inR c.2.1 0 ((L.length : Int) - 1) && (decide (L.getD c.1.toNat 0 = L.getD c.2.1.toNat 0) == c.2.2))

end Go.Sh

/-
  The search for the best partition: plain. The program looks at every partition, the reference leaves out what cannot be the best.
-/
namespace Go.Sh
set_option linter.unusedSimpArgs false
set_option linter.unusedVariables false
open Go Go.Proofs

structure BS where
  first : List Int
  least : Int
  count : Nat
def updB (M : List (List Int)) (C : List Con) (s : BS) (p : List Int) : BS :=
  if C.all (kp p) = true then
    (if s.least < 0 ∨ cc M p p.length < s.least then ⟨p, cc M p p.length, 1⟩
     else if cc M p p.length = s.least then ⟨s.first, s.least, s.count + 1⟩ else s)
  else s
def each (f : BS → List Int → BS) : Nat → List Int → Nat → BS → BS
  | 0, p, _, s => f s p
  | k + 1, p, nx, s => (List.range (nx + 1)).foldl (fun s (x : Nat) => each f k (p ++ [(x : Int)]) (max nx (x + 1)) s) s
def badK (C : List Con) (p : List Int) : Bool := C.any fun c => decide (c.2.1 = (p.length : Int) - 1) && (decide (p.getD c.1.toNat 0 = p.getD (p.length - 1) 0) != c.2.2)
def wadd (M : List (List Int)) (l : List Int) (k : Int) : Nat → Int
  | 0 => 0
  | t + 1 => wadd M l k t + (if l.getD t 0 = k then max 0 (-mat M t l.length) else max 0 (mat M t l.length))
def walkEnd (p : List Int) (cost : Int) (s : BS) : BS := if s.least < 0 ∨ cost < s.least then ⟨p, cost, 1⟩ else ⟨s.first, s.least, s.count + 1⟩
def walkB (M : List (List Int)) (C : List Con) : Nat → List Int → Nat → Int → BS → BS
  | 0, p, _, cost, s => if 0 ≤ s.least ∧ s.least < cost then s else walkEnd p cost s
  | k + 1, p, nx, cost, s => if 0 ≤ s.least ∧ s.least < cost then s else
      (List.range (nx + 1)).foldl (fun s (x : Nat) => if badK C (p ++ [(x : Int)]) = true then s else walkB M C k (p ++ [(x : Int)]) (max nx (x + 1)) (cost + wadd M p x p.length) s) s

theorem foldl_fix {α β : Type} {g : α → β → α} {s : α} : ∀ (l : List β), (∀ x ∈ l, g s x = s) → l.foldl g s = s
  | [], _ => rfl
  | x :: l, h => by rw [List.foldl_cons, h x (by simp)]; exact foldl_fix l fun y hy => h y (by simp [hy])
theorem foldl_same {α β : Type} {g h : α → β → α} : ∀ (l : List β) (s : α), (∀ s x, x ∈ l → g s x = h s x) → l.foldl g s = l.foldl h s
  | [], _, _ => rfl
  | x :: l, s, e => by rw [List.foldl_cons, List.foldl_cons, e s x (by simp)]; exact foldl_same l _ fun s y hy => e s y (by simp [hy])
theorem snoc_lt {p : List Int} {x : Int} {i : Nat} (h : i < p.length) : (p ++ [x]).getD i 0 = p.getD i 0 := by
  simp [List.getD_eq_getElem?_getD, List.getElem?_append_left h]
theorem snoc_at {p : List Int} {x : Int} : (p ++ [x]).getD p.length 0 = x := by simp
theorem ct_snoc {M : List (List Int)} {p : List Int} {x : Int} {i k : Nat} (hi : i < p.length) (hk : k < p.length) : ct M (p ++ [x]) i k = ct M p i k := by
  rw [ct, ct, snoc_lt hi, snoc_lt hk]
theorem cr_snoc {M : List (List Int)} {p : List Int} {x : Int} {i : Nat} (hi : i < p.length) : ∀ k, k ≤ p.length → cr M (p ++ [x]) i k = cr M p i k
  | 0, _ => rfl
  | k + 1, hk => by rw [cr, cr, cr_snoc hi k (by omega), ct_snoc hi (by omega)]
theorem cc_snoc0 {M : List (List Int)} {p : List Int} {x : Int} : ∀ i, i ≤ p.length → cc M (p ++ [x]) i = cc M p i
  | 0, _ => rfl
  | i + 1, hi => by rw [cc, cc, cc_snoc0 i (by omega), cr_snoc (by omega) i (by omega)]
theorem cr_wadd {M : List (List Int)} (hw : WM M) {p : List Int} {x : Int} (hp : p.length < M.length) : ∀ t, t ≤ p.length → cr M (p ++ [x]) p.length t = wadd M p x t
  | 0, _ => rfl
  | t + 1, ht => by
    rw [cr, wadd, cr_wadd hw hp t (by omega), ct, snoc_at, snoc_lt (by omega)]
    have e := (hw.2.2.1 t p.length (by omega) hp).2
    rw [e]
    by_cases h : p.getD t 0 = x
    · rw [if_pos h, if_pos h.symm]
    · rw [if_neg h, if_neg (Ne.symm h)]
theorem cc_snoc {M : List (List Int)} (hw : WM M) {p : List Int} {x : Int} (hp : p.length < M.length) : cc M (p ++ [x]) (p ++ [x]).length = cc M p p.length + wadd M p x p.length := by
  rw [List.length_append, List.length_singleton, cc, cc_snoc0 _ (Nat.le_refl _), cr_wadd hw hp _ (Nat.le_refl _)]
theorem wadd_b {M : List (List Int)} (hw : WM M) {p : List Int} {x : Int} (hp : p.length < M.length) {t : Nat} (ht : t ≤ p.length) : 0 ≤ wadd M p x t ∧ wadd M p x t ≤ 1000 * t := by
  rw [← cr_wadd hw hp t ht]
  exact cr_b hw hp t (by omega)
theorem each_cut {M : List (List Int)} {C : List Con} (hw : WM M) {s : BS} (h0 : 0 ≤ s.least) : ∀ (k : Nat) (p : List Int) (nx : Nat), p.length + k = M.length → s.least < cc M p p.length → each (updB M C) k p nx s = s
  | 0, p, nx, hl, hc => by
    rw [each, updB]
    have h1 : ¬ (s.least < 0 ∨ cc M p p.length < s.least) := by omega
    have h2 : ¬ cc M p p.length = s.least := by omega
    rw [if_neg h1, if_neg h2]
    simp
  | k + 1, p, nx, hl, hc => by
    rw [each]
    refine foldl_fix _ fun x _ => each_cut hw h0 k _ _ (by simp; omega) ?_
    have := wadd_b hw (p := p) (x := x) (by omega) (Nat.le_refl _)
    rw [cc_snoc hw (by omega)]; omega
def Viol (C : List Con) (p : List Int) : Prop := ∃ c ∈ C, 0 ≤ c.1 ∧ c.1 < c.2.1 ∧ c.2.1 < (p.length : Int) ∧ decide (p.getD c.1.toNat 0 = p.getD c.2.1.toNat 0) ≠ c.2.2
theorem Viol.snoc {C : List Con} {p : List Int} {x : Int} (h : Viol C p) : Viol C (p ++ [x]) := by
  obtain ⟨c, hc, h1, h2, h3, h4⟩ := h
  refine ⟨c, hc, h1, h2, by simp; omega, ?_⟩
  rw [snoc_lt (by omega), snoc_lt (by omega)]
  exact h4
theorem Viol.all {C : List Con} {p : List Int} (h : Viol C p) : C.all (kp p) = false := by
  obtain ⟨c, hc, h1, h2, h3, h4⟩ := h
  rw [List.all_eq_false]
  refine ⟨c, hc, fun g => h4 ?_⟩
  rw [kp] at g
  simp only [Bool.and_eq_true] at g
  exact eq_of_beq g.2.2
theorem each_viol {M : List (List Int)} {C : List Con} {s : BS} : ∀ (k : Nat) (p : List Int) (nx : Nat), Viol C p → each (updB M C) k p nx s = s
  | 0, p, nx, h => by rw [each, updB, if_neg (by rw [h.all]; simp)]
  | k + 1, p, nx, h => by
    rw [each]
    exact foldl_fix _ fun x _ => each_viol k _ _ h.snoc
theorem bad_viol {n : Nat} {C : List Con} (hC : C.all (goodCon n) = true) {p : List Int} (h : badK C p = true) : Viol C p := by
  rw [badK, List.any_eq_true] at h
  obtain ⟨c, hc, h⟩ := h
  simp only [Bool.and_eq_true, decide_eq_true_eq, bne_iff_ne] at h
  have g := List.all_eq_true.1 hC c hc
  simp only [goodCon, Bool.and_eq_true, decide_eq_true_eq] at g
  obtain ⟨a1, a2⟩ := inR_of g.1
  refine ⟨c, hc, a1, g.2.2, by omega, ?_⟩
  have e : c.2.1.toNat = p.length - 1 := by omega
  rw [e]
  exact h.2
def Kept (C : List Con) (p : List Int) : Prop := ∀ c ∈ C, c.2.1 < (p.length : Int) → decide (p.getD c.1.toNat 0 = p.getD c.2.1.toNat 0) = c.2.2
theorem Kept.snoc {n : Nat} {C : List Con} (hC : C.all (goodCon n) = true) {p : List Int} {x : Int} (h : Kept C p) (hb : badK C (p ++ [x]) = false) : Kept C (p ++ [x]) := by
  intro c hc hlt
  have g := List.all_eq_true.1 hC c hc
  simp only [goodCon, Bool.and_eq_true, decide_eq_true_eq] at g
  obtain ⟨a1, a2⟩ := inR_of g.1
  obtain ⟨b1, b2⟩ := inR_of g.2.1
  have hs := g.2.2
  by_cases hl : c.2.1 < (p.length : Int)
  · rw [snoc_lt (by omega), snoc_lt (by omega)]
    exact h c hc hl
  · rw [badK, List.any_eq_false] at hb
    have hb := hb c hc
    have e1 : c.2.1 = ((p ++ [x]).length : Int) - 1 := by simp at hlt ⊢; omega
    have e2 : c.2.1.toNat = (p ++ [x]).length - 1 := by omega
    rw [e2]
    simpa [e1] using hb
theorem Kept.all {n : Nat} {C : List Con} (hC : C.all (goodCon n) = true) {p : List Int} (hn : p.length = n) (h : Kept C p) : C.all (kp p) = true := by
  rw [List.all_eq_true]
  intro c hc
  have g := List.all_eq_true.1 hC c hc
  simp only [goodCon, Bool.and_eq_true, decide_eq_true_eq] at g
  obtain ⟨b1, b2⟩ := inR_of g.2.1
  rw [kp, hn, g.1, g.2.1, h c hc (by omega)]
  simp
theorem walk_each {M : List (List Int)} {C : List Con} (hw : WM M) (hC : C.all (goodCon M.length) = true) : ∀ (k : Nat) (p : List Int) (nx : Nat) (s : BS), p.length + k = M.length → Kept C p →
    walkB M C k p nx (cc M p p.length) s = each (updB M C) k p nx s
  | 0, p, nx, s, hl, hk => by
    rw [walkB]
    by_cases h : 0 ≤ s.least ∧ s.least < cc M p p.length
    · rw [if_pos h, each_cut hw h.1 0 p nx hl h.2]
    · rw [if_neg h, each, updB, if_pos (hk.all hC (by omega)), walkEnd]
      by_cases g : s.least < 0 ∨ cc M p p.length < s.least
      · rw [if_pos g, if_pos g]
      · rw [if_neg g, if_neg g, if_pos (by omega)]
  | k + 1, p, nx, s, hl, hk => by
    rw [walkB]
    by_cases h : 0 ≤ s.least ∧ s.least < cc M p p.length
    · rw [if_pos h, each_cut hw h.1 (k + 1) p nx hl h.2]
    · rw [if_neg h, each]
      refine foldl_same _ _ fun s x _ => ?_
      rcases Bool.eq_false_or_eq_true (badK C (p ++ [(x : Int)])) with b | b
      · rw [if_pos b, each_viol k _ _ (bad_viol hC b)]
      · rw [if_neg (by rw [b]; simp), ← cc_snoc hw (by omega)]
        exact walk_each hw hC k _ _ s (by simp; omega) (hk.snoc hC b)
theorem foldl_count {g : BS → Nat → BS} {B : Nat} : ∀ (m : Nat) (s : BS), (∀ s x, x < m → (g s x).count ≤ s.count + B) → ((List.range m).foldl g s).count ≤ s.count + m * B
  | 0, s, _ => by simp
  | m + 1, s, h => by
    rw [List.range_succ, List.foldl_append]
    have h1 := foldl_count m s fun s x hx => h s x (by omega)
    have h2 := h ((List.range m).foldl g s) m (by omega)
    simp only [List.foldl_cons, List.foldl_nil]
    rw [Nat.succ_mul]; omega
theorem upd_count {M : List (List Int)} {C : List Con} {s : BS} {p : List Int} : (updB M C s p).count ≤ s.count + 1 := by
  unfold updB
  split
  · split
    · show 1 ≤ _; omega
    · split
      · exact Nat.le_refl _
      · omega
  · omega
theorem mul9 {a b B : Nat} (h : a ≤ b) : a * B ≤ b * B := Nat.mul_le_mul_right B h
theorem each_count {M : List (List Int)} {C : List Con} : ∀ (k : Nat) (p : List Int) (nx : Nat) (s : BS), nx + k ≤ 8 → (each (updB M C) k p nx s).count ≤ s.count + 9 ^ k
  | 0, p, nx, s, _ => upd_count
  | k + 1, p, nx, s, h => by
    rw [each]
    have h1 := foldl_count (g := fun s (x : Nat) => each (updB M C) k (p ++ [(x : Int)]) (max nx (x + 1)) s) (B := 9 ^ k) (nx + 1) s fun s x hx => each_count k _ _ s (by omega)
    have h2 : (nx + 1) * 9 ^ k ≤ 9 * 9 ^ k := mul9 (by omega)
    rw [Nat.pow_succ]; omega
theorem walk_count {M : List (List Int)} {C : List Con} : ∀ (k : Nat) (p : List Int) (nx : Nat) (cost : Int) (s : BS), nx + k ≤ 8 → (walkB M C k p nx cost s).count ≤ s.count + 9 ^ k
  | 0, p, nx, cost, s, _ => by
    rw [walkB]
    split
    · exact Nat.le_add_right _ _
    · unfold walkEnd
      split
      · show 1 ≤ _; omega
      · exact Nat.le_refl _
  | k + 1, p, nx, cost, s, h => by
    rw [walkB]
    split
    · exact Nat.le_add_right _ _
    · have h1 := foldl_count (g := fun s (x : Nat) => if badK C (p ++ [(x : Int)]) = true then s else walkB M C k (p ++ [(x : Int)]) (max nx (x + 1)) (cost + wadd M p x p.length) s) (B := 9 ^ k) (nx + 1) s fun s x hx => by
        show (if badK C (p ++ [(x : Int)]) = true then s else walkB M C k (p ++ [(x : Int)]) (max nx (x + 1)) (cost + wadd M p x p.length) s).count ≤ _
        split
        · exact Nat.le_add_right _ _
        · exact walk_count k _ _ _ s (by omega)
      have h2 : (nx + 1) * 9 ^ k ≤ 9 * 9 ^ k := mul9 (by omega)
      rw [Nat.pow_succ]; omega
end Go.Sh

/-
  Contracts: how constraints relate two items. Of the reference and of the program.
-/
namespace Go.Sh
set_option linter.unusedSimpArgs false
set_option linter.unusedVariables false
open Go Go.Proofs

def apF (L : List Int) (p q : Int) (c : Con) : Bool := !c.2.2 && ((decide (L.getD c.1.toNat 0 = p) && decide (L.getD c.2.1.toNat 0 = q)) || (decide (L.getD c.1.toNat 0 = q) && decide (L.getD c.2.1.toNat 0 = p)))
theorem apF_at (L : List Int) (p q : Int) (x y : Nat) (s : Bool) : apF L p q ((x : Int), (y : Int), s) = (!s && ((decide (L.getD x 0 = p) && decide (L.getD y 0 = q)) || (decide (L.getD x 0 = q) && decide (L.getD y 0 = p)))) := rfl
noncomputable def relOf (n : Int) (C : List Con) (a b : Int) : Int :=
  if isCst n C = true ∧ inR a 0 (n - 1) = true ∧ inR b 0 (n - 1) = true then
    (if (must n C).getD a.toNat 0 = (must n C).getD b.toNat 0 then 1 else if C.any (apF (must n C) ((must n C).getD a.toNat 0) ((must n C).getD b.toNat 0)) = true then -1 else 0)
  else 0
theorem isCst_t {n : Int} {C : List Con} (h : isCst n C = true) : areCons n C = true := by
  simp only [isCst, Bool.and_eq_true] at h; exact h.1

end Go.Sh

/-
  What the search for the best partition finds: plain.
-/
namespace Go.Sh
set_option linter.unusedSimpArgs false
set_option linter.unusedVariables false
open Go Go.Proofs

def topP (nx : Int) (L : List Int) : Int := L.foldl (fun m x => max m (x + 1)) nx
theorem topP_append (nx : Int) (L K : List Int) : topP nx (L ++ K) = topP (topP nx L) K := by simp [topP, List.foldl_append]
theorem okP_append2 : ∀ (L K : List Int) (nx : Int), okP nx (L ++ K) = (okP nx L && okP (topP nx L) K)
  | [], K, nx => by simp [okP, topP]
  | x :: L, K, nx => by
    rw [List.cons_append, okP, okP_append2 L K, okP, Bool.and_assoc]
    rfl
theorem take_snocB {L : List Int} {k : Nat} (h : k < L.length) : L.take (k + 1) = L.take k ++ [L.getD k 0] := by
  rw [List.take_succ_eq_append_getElem h]; simp [h]
theorem okP_take {L : List Int} (h0 : ∀ x, x < L.length → 0 ≤ L.getD x 0) (hc : ∀ x v, x < L.length → 0 ≤ v → v < L.getD x 0 → ∃ y, y < x ∧ L.getD y 0 = v) : ∀ k, k ≤ L.length →
    okP 0 (L.take k) = true ∧ 0 ≤ topP 0 (L.take k) ∧ ∀ y, y < k → L.getD y 0 + 1 ≤ topP 0 (L.take k)
  | 0, _ => by simp [okP, topP]
  | k + 1, hk => by
    obtain ⟨h1, h2, h3⟩ := okP_take h0 hc k (by omega)
    rw [take_snocB (by omega), okP_append2, topP_append]
    have e : topP (topP 0 (L.take k)) [L.getD k 0] = max (topP 0 (L.take k)) (L.getD k 0 + 1) := rfl
    have hk0 := h0 k (by omega)
    have hle : L.getD k 0 ≤ topP 0 (L.take k) := by
      by_cases hz : L.getD k 0 = 0
      · omega
      · obtain ⟨y, g1, g2⟩ := hc k (L.getD k 0 - 1) (by omega) (by omega) (by omega)
        have := h3 y g1
        omega
    rw [e]
    refine ⟨?_, by omega, fun y hy => ?_⟩
    · simp only [okP, h1, Bool.and_true, Bool.true_and, inR, Bool.and_eq_true, decide_eq_true_eq]
      exact ⟨hk0, hle⟩
    · rcases Nat.lt_succ_iff_lt_or_eq.mp hy with h | rfl
      · have := h3 y h; omega
      · omega
theorem CompL.okP {n : Nat} {B : Nat → Nat → Bool} {L : List Int} (h : CompL n B L) : okP 0 L = true := by
  have hl := h.len
  have := (okP_take (L := L) (fun x hx => h.nn x (by omega)) (fun x v hx => h.can x v (by omega)) L.length (Nat.le_refl _)).1
  rwa [List.take_length] at this
theorem CompL.part {n : Nat} {B : Nat → Nat → Bool} {L : List Int} (h : CompL n B L) (h1 : 1 ≤ n) (h8 : n ≤ 8) : isPart L = true := by
  have hl := h.len
  rw [isPart, h.okP, hl]
  simp [inR]; omega
theorem must_part {n : Nat} {C : List Con} (h : areCons n C = true) : isPart (must n C) = true := by
  obtain ⟨⟨h1, h2⟩, _⟩ := areCons_t h
  rw [must_t h]
  exact must_ok.part (by omega) (by omega)
theorem isCst_neg {n : Int} {C : List Con} (h : isCst n C = true) : conflict n C < 0 := by
  rw [isCst, Bool.and_eq_true] at h
  simpa using h.2
/-- The closure of consistent constraints keeps them. -/
theorem must_keeps {n : Nat} {C : List Con} (h : isCst n C = true) : C.all (kp (must n C)) = true := by
  have ha := isCst_t h
  have hn := isCst_neg h
  rw [conflict_t ha] at hn
  have hno : C.any (cfl (must n C)) = false := by
    rw [← Bool.not_eq_true, ← fidx_ge]; omega
  have hl := must_length ha
  rw [List.all_eq_true]
  intro c hc
  obtain ⟨⟨h1, h2⟩, _, hg⟩ := areCons_t ha
  obtain ⟨g1, g2, g3⟩ := hg c hc
  rw [List.any_eq_false] at hno
  have hcf := hno c hc
  obtain ⟨a, b, s⟩ := c
  simp only at g1 g2 g3
  obtain ⟨x, rfl⟩ := Int.eq_ofNat_of_zero_le g1
  obtain ⟨y, rfl⟩ := Int.eq_ofNat_of_zero_le (by omega : 0 ≤ b)
  have r1 : inR (x : Int) 0 (((must n C).length : Int) - 1) = true := by rw [hl]; simp [inR]; omega
  have r2 : inR (y : Int) 0 (((must n C).length : Int) - 1) = true := by rw [hl]; simp [inR]; omega
  rw [kp]
  simp only [r1, r2, Bool.true_and]
  cases s with
  | false =>
    simp only [cfl, Bool.not_false, Bool.true_and, decide_eq_true_eq] at hcf
    rw [decide_eq_false hcf]; rfl
  | true =>
    have : mustB C x y = true := by
      rw [mustB, List.any_eq_true]
      exact ⟨_, hc, by simp [linkB]⟩
    have e : (must n C).getD x 0 = (must n C).getD y 0 := by
      rw [must_t ha]
      have hx : x < ((n : Int)).toNat := by omega
      have hy : y < ((n : Int)).toNat := by omega
      exact (must_ok.iff x y hx hy).2 (.one hx hy this)
    have e2 : (must n C).getD ((x : Int)).toNat 0 = (must n C).getD ((y : Int)).toNat 0 := e
    rw [decide_eq_true e2]; rfl

/-- What a search of all partitions keeps true. -/
theorem foldl_inv {α β : Type} {g : α → β → α} {I : α → Prop} : ∀ (l : List β) (s : α), I s → (∀ s x, x ∈ l → I s → I (g s x)) → I (l.foldl g s)
  | [], _, h, _ => h
  | x :: l, s, h, hg => by rw [List.foldl_cons]; exact foldl_inv l _ (hg s x (by simp) h) fun s y hy => hg s y (by simp [hy])
theorem each_inv {f : BS → List Int → BS} {I : BS → Prop} {n : Nat} (hf : ∀ s q, q.length = n → okP 0 q = true → I s → I (f s q)) : ∀ (k : Nat) (p : List Int) (nx : Nat) (s : BS), p.length + k = n → okP 0 p = true → topP 0 p = nx → I s → I (each f k p nx s)
  | 0, p, nx, s, hl, hp, _, hs => hf s p (by omega) hp hs
  | k + 1, p, nx, s, hl, hp, ht, hs => by
    rw [each]
    refine foldl_inv _ s hs fun s x hx hs => each_inv hf k _ _ s (by simp; omega) ?_ ?_ hs
    · have hx := List.mem_range.1 hx
      rw [okP_append2, hp, ht]
      simp [okP, inR]; omega
    · rw [topP_append, ht]
      simp [topP]; omega
theorem foldl_rel {α : Type} {g : α → Nat → α} {R : α → α → Prop} (hr : ∀ a, R a a) (ht : ∀ a b c, R a b → R b c → R a c) (hg : ∀ s x, R s (g s x)) : ∀ (l : List Nat) (s : α), R s (l.foldl g s)
  | [], s => hr s
  | x :: l, s => by rw [List.foldl_cons]; exact ht _ _ _ (hg s x) (foldl_rel hr ht hg l _)
theorem each_rel {f : BS → List Int → BS} {R : BS → BS → Prop} (hr : ∀ a, R a a) (ht : ∀ a b c, R a b → R b c → R a c) (hf : ∀ s q, R s (f s q)) : ∀ (k : Nat) (p : List Int) (nx : Nat) (s : BS), R s (each f k p nx s)
  | 0, p, nx, s => hf s p
  | k + 1, p, nx, s => by
    rw [each]
    exact foldl_rel hr ht (fun s x => each_rel hr ht hf k _ _ s) _ s
/-- Every partition is looked at. -/
theorem foldl_visit {α : Type} {g : α → Nat → α} {R : α → α → Prop} (ht : ∀ a b c, R a b → R b c → R a c) (hr : ∀ a, R a a) (hg : ∀ s x, R s (g s x)) {y : Nat} : ∀ (l : List Nat) (s : α), y ∈ l → ∃ s1, R s s1 ∧ R (g s1 y) (l.foldl g s)
  | x :: l, s, h => by
    rw [List.foldl_cons]
    by_cases e : y = x
    · subst e
      exact ⟨s, hr s, foldl_rel hr ht hg l _⟩
    · obtain ⟨s1, h1, h2⟩ := foldl_visit ht hr hg l (g s x) (by simpa [e] using h)
      exact ⟨s1, ht _ _ _ (hg s x) h1, h2⟩
theorem each_visit {f : BS → List Int → BS} {R : BS → BS → Prop} (hr : ∀ a, R a a) (ht : ∀ a b c, R a b → R b c → R a c) (hf : ∀ s q, R s (f s q)) : ∀ (k : Nat) (p r : List Int) (nx : Nat) (s : BS), r.length = k → okP nx r = true → ∃ s1, R s s1 ∧ R (f s1 (p ++ r)) (each f k p nx s)
  | 0, p, r, nx, s, hl, hp => by
    obtain rfl := List.length_eq_zero_iff.1 hl
    exact ⟨s, hr s, by rw [List.append_nil]; exact hr _⟩
  | k + 1, p, [], nx, s, hl, hp => by simp at hl
  | k + 1, p, y :: r, nx, s, hl, hp => by
    rw [okP, Bool.and_eq_true] at hp
    obtain ⟨y0, y1⟩ := inR_of hp.1
    obtain ⟨x, rfl⟩ := Int.eq_ofNat_of_zero_le y0
    rw [each]
    obtain ⟨s1, h1, h2⟩ := foldl_visit (g := fun s (x : Nat) => each f k (p ++ [(x : Int)]) (max nx (x + 1)) s) ht hr (fun s x => each_rel hr ht hf k _ _ s) (y := x) (List.range (nx + 1)) s (List.mem_range.2 (by omega))
    obtain ⟨s2, g1, g2⟩ := each_visit hr ht hf k (p ++ [(x : Int)]) r (max nx (x + 1)) s1 (by simpa using hl) (by
      have e : (((max nx (x + 1) : Nat)) : Int) = max (nx : Int) ((x : Int) + 1) := by omega
      rw [e]; exact hp.2)
    refine ⟨s2, ht _ _ _ h1 g1, ht _ _ _ ?_ h2⟩
    rw [List.append_assoc] at g2
    exact g2

def bs (M : List (List Int)) (C : List Con) : BS := each (updB M C) M.length [] 0 ⟨[], -1, 0⟩
structure Best (M : List (List Int)) (C : List Con) (s : BS) : Prop where
  nn : s.least < 0 → s.least = -1 ∧ s.first = [] ∧ s.count = 0
  ok : 0 ≤ s.least → s.first.length = M.length ∧ okP 0 s.first = true ∧ C.all (kp s.first) = true ∧ cc M s.first M.length = s.least ∧ 0 < s.count
theorem Best.updB {M : List (List Int)} {C : List Con} (hw : WM M) {s : BS} {q : List Int} (hl : q.length = M.length) (hq : okP 0 q = true) (h : Best M C s) : Best M C (updB M C s q) := by
  unfold Go.Sh.updB
  have hc := cc_b (L := q) hw M.length (Nat.le_refl _)
  split
  · rename_i hk
    rw [hl]
    split
    · exact ⟨fun g => by simp only at g; omega, fun _ => ⟨hl, hq, hk, rfl, by simp⟩⟩
    · split
      · rename_i g1 g2
        refine ⟨fun g => by simp only at g; omega, fun g => ?_⟩
        obtain ⟨a1, a2, a3, a4, a5⟩ := h.ok (by omega)
        exact ⟨a1, a2, a3, a4, by simp⟩
      · exact h
  · exact h
theorem bs_best {M : List (List Int)} {C : List Con} (hw : WM M) : Best M C (bs M C) :=
  each_inv (n := M.length) (fun s q h1 h2 h3 => h3.updB hw h1 h2) M.length [] 0 _ (by simp) rfl rfl ⟨fun _ => ⟨rfl, rfl, rfl⟩, fun h => by simp at h⟩
def Dn (s t : BS) : Prop := 0 ≤ s.least → 0 ≤ t.least ∧ t.least ≤ s.least
theorem upd_dn {M : List (List Int)} {C : List Con} (hw : WM M) (s : BS) (q : List Int) : q.length = M.length → Dn s (updB M C s q) := by
  intro hl h
  have hc := cc_b (L := q) hw M.length (Nat.le_refl _)
  unfold updB
  rw [hl]
  split
  · split
    · exact ⟨hc.1, by show cc M q M.length ≤ _; omega⟩
    · split
      · exact ⟨h, Int.le_refl _⟩
      · exact ⟨h, Int.le_refl _⟩
  · exact ⟨h, Int.le_refl _⟩
/-- No partition that keeps the constraints costs less. -/
theorem bs_least {M : List (List Int)} {C : List Con} (hw : WM M) {q : List Int} (hl : q.length = M.length) (hq : okP 0 q = true) (hk : C.all (kp q) = true) : 0 ≤ (bs M C).least ∧ (bs M C).least ≤ cc M q M.length := by
  have hc := cc_b (L := q) hw M.length (Nat.le_refl _)
  let f : BS → List Int → BS := fun s p => if p.length = M.length then updB M C s p else s
  have hfe : ∀ (k : Nat) (p : List Int) (nx : Nat) (s : BS), p.length + k = M.length → each f k p nx s = each (updB M C) k p nx s := by
    intro k
    induction k with
    | zero => intro p nx s h; exact if_pos (by omega)
    | succ k ih =>
      intro p nx s h
      rw [each, each]
      exact foldl_same _ _ fun s x _ => ih _ _ _ (by simp; omega)
  obtain ⟨s1, _, h2⟩ := each_visit (f := f) (R := Dn) (fun a h => ⟨h, Int.le_refl _⟩) (fun a b c h1 h2 h => by
    obtain ⟨a1, a2⟩ := h1 h
    obtain ⟨b1, b2⟩ := h2 a1
    exact ⟨b1, by omega⟩) (fun s p => by
      show Dn s (if p.length = M.length then updB M C s p else s)
      split
      · rename_i h; exact upd_dn hw s p h
      · exact fun h => ⟨h, Int.le_refl _⟩) M.length [] q 0 ⟨[], -1, 0⟩ hl hq
  rw [hfe _ _ _ _ (by simp), List.nil_append] at h2
  have e : f s1 q = updB M C s1 q := if_pos hl
  have h3 : 0 ≤ (updB M C s1 q).least ∧ (updB M C s1 q).least ≤ cc M q M.length := by
    unfold updB
    rw [if_pos hk, hl]
    split
    · exact ⟨hc.1, Int.le_refl _⟩
    · split
      · rename_i g1 g2
        exact ⟨by show 0 ≤ s1.least; omega, by show s1.least ≤ _; omega⟩
      · exact ⟨by omega, by omega⟩
  rw [e] at h2
  obtain ⟨a1, a2⟩ := h2 h3.1
  exact ⟨a1, by have : (each (updB M C) M.length [] 0 ⟨[], -1, 0⟩) = bs M C := rfl
                rw [this] at a2; omega⟩
/-- Consistent constraints are kept by a partition. -/
theorem bs_ok {M : List (List Int)} {C : List Con} (hw : WM M) (h : isCst M.length C = true) : 0 ≤ (bs M C).least := by
  have hp := must_part (isCst_t h)
  have hl := must_length (isCst_t h)
  rw [isPart, Bool.and_eq_true] at hp
  exact (bs_least hw (q := must M.length C) (by omega) hp.1 (must_keeps h)).1
theorem bs_walk {M : List (List Int)} {C : List Con} (hw : WM M) (h : areCons M.length C = true) : walkB M C M.length [] 0 0 ⟨[], -1, 0⟩ = bs M C := by
  have hg : C.all (goodCon M.length) = true := by
    rw [areCons] at h
    simp only [Bool.and_eq_true] at h
    exact h.2.2
  exact walk_each hw hg M.length [] 0 _ (by simp) (fun c hc hlt => by
    have g := List.all_eq_true.1 hg c hc
    simp only [goodCon, Bool.and_eq_true] at g
    have := inR_of g.2.1
    simp at hlt; omega)
end Go.Sh

/-
  The law FnPartitions: plain.
-/
namespace Go.Sh
set_option linter.unusedSimpArgs false
set_option linter.unusedVariables false
open Go Go.Proofs

theorem canon_iff {X : List Int} {i k : Nat} (hi : i < X.length) (hk : k < X.length) : (canon X).getD i 0 = (canon X).getD k 0 ↔ X.getD i 0 = X.getD k 0 := by
  constructor
  · exact canon_inj hi hk
  · intro h
    have := (cst_spec X X.length (Nat.le_refl _)).1
    rw [List.take_length] at this
    obtain ⟨g1, g2⟩ := this i hi
    obtain ⟨q1, q2⟩ := this k hk
    show (cst X).2.getD i 0 = (cst X).2.getD k 0
    rw [g2, q2, h]
theorem canon_canon (X : List Int) : canon (canon X) = canon X :=
  canon_congr (canon_length X) fun i k hi hk => by
    rw [canon_length] at hi hk
    exact canon_iff hi hk
theorem pairB_mk {A B : List Int} (h1 : isPart A = true) (h2 : isPart B = true) (h3 : A.length = B.length) : pairB A B = true := by
  rw [pairB, h1, h2, decide_eq_true h3]; rfl
theorem both_iff {A B : List Int} (h : pairB A B = true) {i k : Nat} (hi : i < A.length) (hk : k < A.length) : (both A B).getD i 0 = (both A B).getD k 0 ↔ (A.getD i 0 = A.getD k 0 ∧ B.getD i 0 = B.getD k 0) := by
  obtain ⟨pa, pb, hl⟩ := pairB_t h
  rw [both_get hl hi, both_get hl hk]
  have b1 := isPart_bound pb (i := i) (by omega)
  have b2 := isPart_bound pb (i := k) (by omega)
  constructor
  · intro e; omega
  · rintro ⟨e1, e2⟩; rw [e1, e2]
theorem meet_at {A B : List Int} (h : pairB A B = true) {i k : Nat} (hi : i < A.length) (hk : k < A.length) : (meet A B).getD i 0 = (meet A B).getD k 0 ↔ (A.getD i 0 = A.getD k 0 ∧ B.getD i 0 = B.getD k 0) := by
  obtain ⟨pa, pb, hl⟩ := pairB_t h
  have hbl := both_length hl
  rw [meet, if_pos h, canon_iff (by omega) (by omega)]
  exact both_iff h hi hk
theorem meet_part {A B : List Int} (h : pairB A B = true) : isPart (meet A B) = true := by
  obtain ⟨pa, pb, hl⟩ := pairB_t h
  have hbl := both_length hl
  have := isPart_len pa
  rw [meet, if_pos h]
  exact canon_isPart (by omega) (by omega)
theorem jn_at {A B : List Int} (h : pairB A B = true) {i k : Nat} (hi : i < A.length) (hk : k < A.length) : (jn A B).getD i 0 = (jn A B).getD k 0 ↔ Rch A.length (joinB A B) i k := by
  rw [jn_t h]; exact join_ok.iff i k hi hk
theorem jn_part {A B : List Int} (h : pairB A B = true) : isPart (jn A B) = true := by
  obtain ⟨pa, pb, hl⟩ := pairB_t h
  have := isPart_len pa
  rw [jn_t h]; exact CompL.part join_ok (by omega) (by omega)
open Classical in
theorem refB_mk {A B : List Int} (h1 : pairB A B = true) (h2 : Ref A B) : refB A B = true := by
  rw [refB, h1, decide_eq_true h2]; rfl
theorem refB_f {A B : List Int} (h1 : pairB A B = false) : refB A B = false := by rw [refB, h1]; rfl
/-- What lies below and above. -/
theorem pt_facts {A B : List Int} (h : pairB A B = true) : refB (meet A B) A = true ∧ refB (meet A B) B = true ∧ refB A (jn A B) = true ∧ refB B (jn A B) = true ∧ isPart (meet A B) = true ∧ isPart (jn A B) = true := by
  obtain ⟨pa, pb, hl⟩ := pairB_t h
  have m1 := meet_part h
  have m2 := meet_length h
  have j1 := jn_part h
  have j2 := jn_length h
  refine ⟨refB_mk (pairB_mk m1 pa m2) fun i k hk hi e => ?_, refB_mk (pairB_mk m1 pb (by omega)) fun i k hk hi e => ?_, refB_mk (pairB_mk pa j1 j2.symm) fun i k hk hi e => ?_, refB_mk (pairB_mk pb j1 (by omega)) fun i k hk hi e => ?_, m1, j1⟩
  · exact ((meet_at h (by omega) (by omega)).1 e).1
  · exact ((meet_at h (by omega) (by omega)).1 e).2
  · refine (jn_at h (by omega) (by omega)).2 (Rch.one (by omega) (by omega) ?_)
    rw [joinB, decide_eq_true e]; rfl
  · refine (jn_at h (by omega) (by omega)).2 (Rch.one (by omega) (by omega) ?_)
    rw [joinB, decide_eq_true e, Bool.or_true]
open Classical in
theorem refB_t {A B : List Int} (h : refB A B = true) : pairB A B = true ∧ Ref A B := by
  rw [refB, Bool.and_eq_true] at h
  exact ⟨h.1, of_decide_eq_true h.2⟩
theorem pt_ref {A B : List Int} (h : refB A B = true) : meet A B = A ∧ jn A B = B := by
  obtain ⟨hp, hr⟩ := refB_t h
  obtain ⟨pa, pb, hl⟩ := pairB_t hp
  refine ⟨(meet_iff hp).2 hr, ?_⟩
  have j2 := jn_length hp
  have hr2 : ∀ x y, x < A.length → y < A.length → A.getD x 0 = A.getD y 0 → B.getD x 0 = B.getD y 0 := fun x y hx hy e => by
    rcases Nat.lt_trichotomy x y with g | g | g
    · exact (hr y x g hy e.symm).symm
    · rw [g]
    · exact hr x y g hx e
  have hB : ∀ x y, Rch A.length (joinB A B) x y → B.getD x 0 = B.getD y 0 := fun x y hxy => by
    induction hxy with
    | refl => rfl
    | tail _ h1 h2 h3 ih =>
      rw [ih]
      simp only [joinB, Bool.or_eq_true, decide_eq_true_eq] at h3
      rcases h3 with h3 | h3
      · exact hr2 _ _ h1 h2 h3
      · exact h3
  refine (canon_part (jn_part hp)).symm.trans ((canon_congr (Y := B) (by omega) fun i k hi hk => ?_).trans (canon_part pb))
  rw [jn_at hp (by omega) (by omega)]
  constructor
  · exact hB i k
  · intro e
    refine Rch.one (by omega) (by omega) ?_
    rw [joinB, decide_eq_true e, Bool.or_true]
end Go.Sh

/-
  Strings as lists of bytes.
-/
namespace Go.Sh
set_option linter.unusedSimpArgs false
set_option linter.unusedVariables false
open Go

abbrev str (l : List UInt8) : SV := .val (.string (sb l))
@[go_sem] theorem sb_mk (l : List UInt8) : ByteArray.mk (List.toArray l) = sb l := rfl
@[go_sem] theorem sb_size (l : List UInt8) : (sb l).size = l.length := by simp [sb, ByteArray.size]
@[go_sem] theorem sb_append (a b : List UInt8) : sb a ++ sb b = sb (a ++ b) := by
  apply ByteArray.ext
  simp [sb]
@[go_sem] theorem sb_toList (l : List UInt8) : (sb l).toList = l := ByteArray.toList_mk l
@[go_sem] theorem sb_extract (l : List UInt8) (a b : Nat) : (sb l).extract a b = sb ((l.drop a).take (b - a)) := ByteArray.extract_mk l a b
theorem sb_of (a : Array UInt8) : ByteArray.mk a = sb a.toList := rfl
theorem sb_data (l : List UInt8) : (sb l).data.toList = l := by simp [sb]
theorem sb_empty : ByteArray.empty = sb [] := rfl
theorem sb_inj {a b : List UInt8} : sb a = sb b ↔ a = b := by
  constructor
  · intro h
    have := congrArg ByteArray.toList h
    simpa [sb_toList] using this
  · rintro rfl; rfl
@[go_sem] theorem sb_index (l : List UInt8) (i : Int) : (if h : 0 ≤ i ∧ i.toNat < (sb l).size then some (SV.val (.int .u8 ((sb l)[i.toNat]'h.2).toNat)) else none) = if 0 ≤ i ∧ i.toNat < l.length then some (.val (.int .u8 (l.getD i.toNat 0).toNat)) else none := by
  by_cases h : 0 ≤ i ∧ i.toNat < l.length
  · have h' : 0 ≤ i ∧ i.toNat < (sb l).size := by rw [sb_size]; exact h
    rw [dif_pos h', if_pos h]
    congr 3
    simp [sb, ByteArray.getElem_eq_getElem_data, h.2]
  · have h' : ¬ (0 ≤ i ∧ i.toNat < (sb l).size) := by rw [sb_size]; exact h
    rw [dif_neg h', if_neg h]
@[go_sem] theorem sstr_add (a b : List UInt8) : sstr .add (sb a) (sb b) = if a.length + b.length ≤ 9223372036854775807 then some (str (a ++ b)) else none := by
  simp only [sstr, sb_size, sb_append]
@[go_sem] theorem sstr_eql (a b : List UInt8) : sstr .eql (sb a) (sb b) = some (.val (.bool (a == b))) := by simp only [sstr, sb_toList]
@[go_sem] theorem sstr_neq (a b : List UInt8) : sstr .neq (sb a) (sb b) = some (.val (.bool (!(a == b)))) := by simp only [sstr, sb_toList]
theorem view_str {H : Heap} {f : Nat} {b : ByteArray} : view H f (.val (.string b)) = some (.val (.string b)) := by unfold view; rfl
theorem wrap8_id {x : Int} (h0 : 0 ≤ x) (h1 : x ≤ 255) : IntKind.u8.wrap x = x := by
  simp [IntKind.wrap, IntKind.signed, IntKind.bits]; omega
/-- Slices of strings, to read. -/
def strs (L : List (List UInt8)) : List SV := L.map str
def rst (L : List (List UInt8)) : SV := .row L.length false (strs L)
end Go.Sh

/-
  DERIVED: THE SHELF's CONTRACTS AT THIS DUMP, IN PLAIN WORDS (tools/lay-plain.mjs out of 'TrydShelf.lean', which tools/lay-shelf.mjs wrote): THE SAME DECLARATIONS UNDER THE SAME NAMES: 'import', 'namespace', 'open', 'def', 'theorem' AND NOTHING ELSE: no command of the shelf's: FOR A HAND-IN. Each laying: the table of numbers ('.._ren') and one theorem, a field a fact of the dump's own or the kernel's comparison; each contract: ONE APPLICATION.
-/
namespace Go.Proofs
open Go.Shelf
def Tryd.lays156_ren : Go.Shelf.Ren := ⟨fun | 156 => 54 | 165 => 83 | 166 => 84 | 169 => 85 | 240 => 98 | 241 => 99 | 276 => 105 | 277 => 106 | n => n, fun | 31 => 58 | 9 => 9 | 3 => 3 | 4 => 4 | 0 => 0 | 20 => 20 | 72 => 84 | 76 => 88 | 70 => 82 | 37 => 48 | 75 => 87 | 127 => 100 | 164 => 104 | 5 => 5 | 80 => 90 | n => n, fun | n => n⟩
theorem Tryd.lays156 : Go.Proofs.Lays.n156 Tryd.prog Tryd.lays156_ren := {
  mixed := by kernel_rfl
  f156 := Tryd.func54.trans (congrArg some (by kernel_rfl))
  f165 := Tryd.func83.trans (congrArg some (by kernel_rfl))
  f166 := Tryd.func84.trans (congrArg some (by kernel_rfl))
  f169 := Tryd.func85.trans (congrArg some (by kernel_rfl))
  f240 := Tryd.func98.trans (congrArg some (by kernel_rfl))
  f241 := Tryd.func99.trans (congrArg some (by kernel_rfl))
  f276 := Tryd.func105.trans (congrArg some (by kernel_rfl))
  f277 := Tryd.func106.trans (congrArg some (by kernel_rfl))
  t0 := Tryd.underlying0
  a0 := Tryd.isAgg0
  z0 := Tryd.sizeOf0
  v0 := Tryd.zeroValue0
  t3 := Tryd.underlying3
  a3 := Tryd.isAgg3
  z3 := Tryd.sizeOf3
  v3 := Tryd.zeroValue3
  t4 := Tryd.underlying4
  a4 := Tryd.isAgg4
  z4 := Tryd.sizeOf4
  v4 := Tryd.zeroValue4
  t9 := Tryd.underlying9
  a9 := Tryd.isAgg9
  z9 := Tryd.sizeOf9
  v9 := Tryd.zeroValue9
  t20 := Tryd.underlying20
  a20 := Tryd.isAgg20
  z20 := Tryd.sizeOf20
  v20 := Tryd.zeroValue20
  t31 := Tryd.underlying58
  a31 := Tryd.isAgg58
  z31 := Tryd.sizeOf58
  v31 := Tryd.zeroValue58
  t37 := Tryd.underlying48
  a37 := Tryd.isAgg48
  z37 := Tryd.sizeOf48
  v37 := Tryd.zeroValue48
  t70 := Tryd.underlying82
  a70 := Tryd.isAgg82
  z70 := Tryd.sizeOf82
  v70 := Tryd.zeroValue82
  t72 := Tryd.underlying84
  a72 := Tryd.isAgg84
  z72 := Tryd.sizeOf84
  v72 := Tryd.zeroValue84
  t75 := Tryd.underlying87
  a75 := Tryd.isAgg87
  z75 := Tryd.sizeOf87
  v75 := Tryd.zeroValue87
  t76 := Tryd.underlying88
  a76 := Tryd.isAgg88
  z76 := Tryd.sizeOf88
  v76 := Tryd.zeroValue88
  t127 := Tryd.underlying100
  a127 := Tryd.isAgg100
  z127 := Tryd.sizeOf100
  v127 := Tryd.zeroValue100
  t164 := Tryd.underlying104
  a164 := Tryd.isAgg104
  z164 := Tryd.sizeOf104
  v164 := Tryd.zeroValue104 }
theorem Tryd.Builder_Extra_156 : Builder.Extra Tryd.prog Tryd.lays156_ren := {
  sizeBuilder := by kernel_rfl
  liesBuilder := by kernel_rfl
  t5 := Tryd.underlying5
  a5 := Tryd.isAgg5
  z5 := Tryd.sizeOf5
  v5 := Tryd.zeroValue5
  infoByte := by kernel_rfl
  cellsByte := by kernel_rfl
  sizeByte := by kernel_rfl
  neB5 := by decide }
open Go.RowKit in
/-- No element: the empty string; the world is as it was. (Whatever the slice's address and capacity: a nil slice too.) (LAID: no walk: one application.) -/
theorem Tryd.strings_Join_none (a : Option Addr) (c : Nat) (sep : ByteArray) (w : World) :
    Calls Tryd.prog 54 #[.slice a 0 c, .string sep] w fun e w' => e = .returned (.string ⟨#[]⟩) ∧ w' = w := Any.strings_Join_none Tryd.lays156 Tryd.Builder_Extra_156 a c sep w
open Go.RowKit in
/-- strings.Join: "Join concatenates the elements of its first argument to create a single string. The separator string sep is placed between elements in the resulting string.": HOWEVER MANY ELEMENTS. Below the heap's end the world is as it was. (LAID: no walk: one application.) -/
theorem Tryd.strings_Join (bk o c : Nat) (xs : List ByteArray) (sep : ByteArray) (w : World) (hcells : ∀ (j : Nat) x, xs[j]? = some x → w.cell? ⟨bk, o + j, none⟩ = some (.string x)) (hbk : bk < w.heap.size) (hN : xs.length ≤ 140737488355328) (hcap : xs.length ≤ c) (hlen : (Lib.join (xs.map (·.data.toList)) sep.data.toList).length ≤ 140737488355328) :
    Calls Tryd.prog 54 #[.slice (some ⟨bk, o, none⟩) xs.length c, .string sep] w fun e w' => e = .returned (.string ⟨(Lib.join (xs.map (·.data.toList)) sep.data.toList).toArray⟩) ∧ Below w.heap.size w w' := Any.strings_Join Tryd.lays156 Tryd.Builder_Extra_156 bk o c xs sep w hcells hbk hN hcap hlen
def Tryd.lays129_ren : Go.Shelf.Ren := ⟨fun | 129 => 129 | n => n, fun | 53 => 118 | 3 => 3 | 4 => 4 | 46 => 103 | 5 => 5 | 9 => 9 | n => n, fun | n => n⟩
theorem Tryd.lays129 : Go.Proofs.Lays.n129 Tryd.prog Tryd.lays129_ren := {
  mixed := by kernel_rfl
  f129 := Tryd.func129.trans (congrArg some (by kernel_rfl))
  t3 := Tryd.underlying3
  a3 := Tryd.isAgg3
  z3 := Tryd.sizeOf3
  v3 := Tryd.zeroValue3
  t4 := Tryd.underlying4
  a4 := Tryd.isAgg4
  z4 := Tryd.sizeOf4
  v4 := Tryd.zeroValue4
  t5 := Tryd.underlying5
  a5 := Tryd.isAgg5
  z5 := Tryd.sizeOf5
  v5 := Tryd.zeroValue5
  t9 := Tryd.underlying9
  a9 := Tryd.isAgg9
  z9 := Tryd.sizeOf9
  v9 := Tryd.zeroValue9
  t46 := Tryd.underlying103
  a46 := Tryd.isAgg103
  z46 := Tryd.sizeOf103
  v46 := Tryd.zeroValue103
  t53 := Tryd.underlying118
  a53 := Tryd.isAgg118
  z53 := Tryd.sizeOf118
  v53 := Tryd.zeroValue118 }
/-- bits.Len64: "Len64 returns the minimum number of bits required to represent x; the result is 0 for x == 0.": IT RETURNS 'Lib.bitLen x'; the world is as it was. ('h0', 'h1': x is a uint64.) (LAID: no walk: one application.) -/
theorem Tryd.bits_Len64 (x : Int) (w : World) (h0 : 0 ≤ x) (h1 : x ≤ 18446744073709551615) :
    Calls Tryd.prog 129 #[.int .u64 x] w fun e w' => e = .returned (.int .i64 (Lib.bitLen x.toNat)) ∧ w' = w := Any.bits_Len64 Tryd.lays129 x w h0 h1
def Tryd.lays317_ren : Go.Shelf.Ren := ⟨fun | 317 => 128 | n => n, fun | 3 => 3 | 46 => 103 | n => n, fun | n => n⟩
theorem Tryd.lays317 : Go.Proofs.Lays.n317 Tryd.prog Tryd.lays317_ren := {
  mixed := by kernel_rfl
  f317 := Tryd.func128.trans (congrArg some (by kernel_rfl))
  t3 := Tryd.underlying3
  a3 := Tryd.isAgg3
  z3 := Tryd.sizeOf3
  v3 := Tryd.zeroValue3
  t46 := Tryd.underlying103
  a46 := Tryd.isAgg103
  z46 := Tryd.sizeOf103
  v46 := Tryd.zeroValue103 }
open Go.Lib in
/-- internal/strconv.log10Pow2: "log10Pow2(x) returns ⌊log₁₀ 2**x⌋ = ⌊x * log₁₀ 2⌋.": '(x * 78913) >> 18', at an x up to 64 (a length in bits). The world is as it was. (LAID: no walk: one application.) -/
theorem Tryd.internal_strconv_log10Pow2 (x : Nat) (h : x ≤ 64) (w : World) :
    Calls Tryd.prog 128 #[.int .i64 x] w fun e w' => e = .returned (.int .i64 (Lib.l10 x)) ∧ w' = w := Any.internal_strconv_log10Pow2 Tryd.lays317 x h w
def Tryd.lays318_ren : Go.Shelf.Ren := ⟨fun | 318 => 130 | n => n, fun | 3 => 3 | 4 => 4 | n => n, fun | n => n⟩
theorem Tryd.lays318 : Go.Proofs.Lays.n318 Tryd.prog Tryd.lays318_ren := {
  mixed := by kernel_rfl
  f318 := Tryd.func130.trans (congrArg some (by kernel_rfl))
  t3 := Tryd.underlying3
  a3 := Tryd.isAgg3
  z3 := Tryd.sizeOf3
  v3 := Tryd.zeroValue3
  t4 := Tryd.underlying4
  a4 := Tryd.isAgg4
  z4 := Tryd.sizeOf4
  v4 := Tryd.zeroValue4 }
open Go.Lib in
/-- internal/strconv.bool2: "bool2 converts b to an integer: 1 for true, 0 for false." The world is as it was. (LAID: no walk: one application.) -/
theorem Tryd.internal_strconv_bool2_int (b : Bool) (w : World) :
    Calls Tryd.prog 130 #[.bool b] w fun e w' => e = .returned (.int .i64 (if b then 1 else 0)) ∧ w' = w := Any.internal_strconv_bool2_int Tryd.lays318 b w
def Tryd.lays283_ren : Go.Shelf.Ren := ⟨fun | 283 => 118 | n => n, fun | 3 => 3 | 9 => 9 | 4 => 4 | n => n, fun | n => n⟩
theorem Tryd.lays283 : Go.Proofs.Lays.n283 Tryd.prog Tryd.lays283_ren := {
  mixed := by kernel_rfl
  f283 := Tryd.func118.trans (congrArg some (by kernel_rfl))
  t3 := Tryd.underlying3
  a3 := Tryd.isAgg3
  z3 := Tryd.sizeOf3
  v3 := Tryd.zeroValue3
  t4 := Tryd.underlying4
  a4 := Tryd.isAgg4
  z4 := Tryd.sizeOf4
  v4 := Tryd.zeroValue4
  t9 := Tryd.underlying9
  a9 := Tryd.isAgg9
  z9 := Tryd.sizeOf9
  v9 := Tryd.zeroValue9 }
open Go.Lib in
/-- internal/strconv.small: "small returns the string for an i with 0 <= i < nSmalls.": i's decimal numeral. The world is as it was. (LAID: no walk: one application.) -/
theorem Tryd.internal_strconv_small (i : Nat) (h : i < 100) (w : World) :
    Calls Tryd.prog 118 #[.int .i64 i] w fun e w' => e = .returned (.string ⟨(Lib.decDigits i).toArray⟩) ∧ w' = w := Any.internal_strconv_small Tryd.lays283 i h w
def Tryd.laysM284_ren : Go.Shelf.Ren := ⟨fun | 284 => 119 | 129 => 129 | 317 => 128 | 318 => 130 | n => n, fun | 53 => 118 | 3 => 3 | 212 => 133 | 0 => 0 | 4 => 4 | 46 => 103 | 5 => 5 | 9 => 9 | n => n, fun | 17 => 3 | n => n⟩
theorem Tryd.laysM284 : Go.Proofs.LaysM.n284 Tryd.prog Tryd.laysM284_ren := {
  mixed := by kernel_rfl
  f129 := Tryd.func129.trans (congrArg some (by kernel_rfl))
  f284 := Tryd.func119.trans (congrArg some (by kernel_rfl))
  f317 := Tryd.func128.trans (congrArg some (by kernel_rfl))
  f318 := Tryd.func130.trans (congrArg some (by kernel_rfl))
  t0 := Tryd.underlying0
  a0 := Tryd.isAgg0
  z0 := Tryd.sizeOf0
  v0 := Tryd.zeroValue0
  t3 := Tryd.underlying3
  a3 := Tryd.isAgg3
  z3 := Tryd.sizeOf3
  v3 := Tryd.zeroValue3
  t4 := Tryd.underlying4
  a4 := Tryd.isAgg4
  z4 := Tryd.sizeOf4
  v4 := Tryd.zeroValue4
  t5 := Tryd.underlying5
  a5 := Tryd.isAgg5
  z5 := Tryd.sizeOf5
  v5 := Tryd.zeroValue5
  t9 := Tryd.underlying9
  a9 := Tryd.isAgg9
  z9 := Tryd.sizeOf9
  v9 := Tryd.zeroValue9
  t46 := Tryd.underlying103
  a46 := Tryd.isAgg103
  z46 := Tryd.sizeOf103
  v46 := Tryd.zeroValue103
  t53 := Tryd.underlying118
  a53 := Tryd.isAgg118
  z53 := Tryd.sizeOf118
  v53 := Tryd.zeroValue118
  t212 := Tryd.underlying133
  a212 := Tryd.isAgg133
  z212 := Tryd.sizeOf133
  v212 := Tryd.zeroValue133
  g17 := by kernel_rfl
  i0 := by kernel_rfl
  i3 := by kernel_rfl
  i4 := by kernel_rfl
  i5 := by kernel_rfl
  i9 := by kernel_rfl
  i46 := by kernel_rfl
  i53 := by kernel_rfl
  i212 := by kernel_rfl
  m17 := by kernel_rfl }
open Go.Lib in
/-- internal/strconv.numDigits, at a d that is not 0: THE NUMBER OF d's DECIMAL DIGITS. The world is as it was. (LAID: no walk: one application.) -/
theorem Tryd.internal_strconv_numDigits (u : Nat) (h1 : 1 ≤ u) (h2 : u < 18446744073709551616) (w : World) (htab : Lib.TabIs Tryd.prog w "internal/strconv.uint64pow10" .u64 Lib.pow10Tab) :
    Calls Tryd.prog 119 #[.int .u64 u] w fun e w' => e = .returned (.int .i64 (Lib.nDigits u)) ∧ w' = w := Any.internal_strconv_numDigits Tryd.laysM284 u h1 h2 w htab
def Tryd.lays285_ren : Go.Shelf.Ren := ⟨fun | 285 => 120 | n => n, fun | 37 => 48 | 53 => 118 | 3 => 3 | 4 => 4 | 51 => 123 | 9 => 9 | 5 => 5 | 0 => 0 | n => n, fun | n => n⟩
theorem Tryd.lays285 : Go.Proofs.Lays.n285 Tryd.prog Tryd.lays285_ren := {
  mixed := by kernel_rfl
  f285 := Tryd.func120.trans (congrArg some (by kernel_rfl))
  t0 := Tryd.underlying0
  a0 := Tryd.isAgg0
  z0 := Tryd.sizeOf0
  v0 := Tryd.zeroValue0
  t3 := Tryd.underlying3
  a3 := Tryd.isAgg3
  z3 := Tryd.sizeOf3
  v3 := Tryd.zeroValue3
  t4 := Tryd.underlying4
  a4 := Tryd.isAgg4
  z4 := Tryd.sizeOf4
  v4 := Tryd.zeroValue4
  t5 := Tryd.underlying5
  a5 := Tryd.isAgg5
  z5 := Tryd.sizeOf5
  v5 := Tryd.zeroValue5
  t9 := Tryd.underlying9
  a9 := Tryd.isAgg9
  z9 := Tryd.sizeOf9
  v9 := Tryd.zeroValue9
  t37 := Tryd.underlying48
  a37 := Tryd.isAgg48
  z37 := Tryd.sizeOf48
  v37 := Tryd.zeroValue48
  t51 := Tryd.underlying123
  a51 := Tryd.isAgg123
  z51 := Tryd.sizeOf123
  v51 := Tryd.zeroValue123
  t53 := Tryd.underlying118
  a53 := Tryd.isAgg118
  z53 := Tryd.sizeOf118
  v53 := Tryd.zeroValue118 }
open Go.RowKit Go.Sort Go.Lib in
/-- internal/strconv.formatBase10: "formatBase10 formats the decimal representation of u into a. The caller is responsible for ensuring that a is big enough to hold u. If a is too big, leading zeros will be filled in as needed.": THE ROW HOLDS u's DIGITS ('FmtInv .. 0 ..': every place t holds 'dg u (len - 1 - t)'); all else is as it was but for the count of draws. (LAID: no walk: one application.) -/
theorem Tryd.internal_strconv_formatBase10 (blk off cap : Nat) (u : Nat) (d : Array UInt8) (w : World) (hH : Holds (fun (b : UInt8) => Value.int .u8 (b.toNat : Int)) w blk off d) (hu : u < 10 ^ d.size) (hu64 : u < 18446744073709551616) (hsz : d.size < 4611686018427387904) :
    Calls Tryd.prog 120 #[.slice (some ⟨blk, off, none⟩) d.size cap, .int .u64 u] w fun e w' =>
      e = .returned (.tuple #[]) ∧ ∃ (n v' : Nat) (dk : Array UInt8), w' = (putRow (fun (b : UInt8) => Value.int .u8 (b.toNat : Int)) w blk off dk).drewN n ∧ FmtInv d.size u 0 v' dk := Any.internal_strconv_formatBase10 Tryd.lays285 blk off cap u d w hH hu hu64 hsz
def Tryd.laysM246_ren : Go.Shelf.Ren := ⟨fun | 246 => 107 | 283 => 118 | 284 => 119 | 285 => 120 | 286 => 121 | 129 => 129 | 317 => 128 | 318 => 130 | 319 => 131 | 320 => 132 | 337 => 135 | 338 => 136 | n => n, fun | 2 => 2 | 3 => 3 | 9 => 9 | 4 => 4 | 171 => 117 | 0 => 0 | 53 => 118 | 37 => 48 | 5 => 5 | 173 => 121 | 212 => 133 | 51 => 123 | 20 => 20 | 213 => 134 | 46 => 103 | 232 => 146 | 233 => 147 | n => n, fun | 17 => 3 | 18 => 6 | 19 => 7 | n => n⟩
theorem Tryd.laysM246 : Go.Proofs.LaysM.n246 Tryd.prog Tryd.laysM246_ren := {
  mixed := by kernel_rfl
  f129 := Tryd.func129.trans (congrArg some (by kernel_rfl))
  f246 := Tryd.func107.trans (congrArg some (by kernel_rfl))
  f283 := Tryd.func118.trans (congrArg some (by kernel_rfl))
  f284 := Tryd.func119.trans (congrArg some (by kernel_rfl))
  f285 := Tryd.func120.trans (congrArg some (by kernel_rfl))
  f286 := Tryd.func121.trans (congrArg some (by kernel_rfl))
  f317 := Tryd.func128.trans (congrArg some (by kernel_rfl))
  f318 := Tryd.func130.trans (congrArg some (by kernel_rfl))
  f319 := Tryd.func131.trans (congrArg some (by kernel_rfl))
  f320 := Tryd.func132.trans (congrArg some (by kernel_rfl))
  f337 := Tryd.func135.trans (congrArg some (by kernel_rfl))
  f338 := Tryd.func136.trans (congrArg some (by kernel_rfl))
  t0 := Tryd.underlying0
  a0 := Tryd.isAgg0
  z0 := Tryd.sizeOf0
  v0 := Tryd.zeroValue0
  t2 := Tryd.underlying2
  a2 := Tryd.isAgg2
  z2 := Tryd.sizeOf2
  v2 := Tryd.zeroValue2
  t3 := Tryd.underlying3
  a3 := Tryd.isAgg3
  z3 := Tryd.sizeOf3
  v3 := Tryd.zeroValue3
  t4 := Tryd.underlying4
  a4 := Tryd.isAgg4
  z4 := Tryd.sizeOf4
  v4 := Tryd.zeroValue4
  t5 := Tryd.underlying5
  a5 := Tryd.isAgg5
  z5 := Tryd.sizeOf5
  v5 := Tryd.zeroValue5
  t9 := Tryd.underlying9
  a9 := Tryd.isAgg9
  z9 := Tryd.sizeOf9
  v9 := Tryd.zeroValue9
  t20 := Tryd.underlying20
  a20 := Tryd.isAgg20
  z20 := Tryd.sizeOf20
  v20 := Tryd.zeroValue20
  t37 := Tryd.underlying48
  a37 := Tryd.isAgg48
  z37 := Tryd.sizeOf48
  v37 := Tryd.zeroValue48
  t46 := Tryd.underlying103
  a46 := Tryd.isAgg103
  z46 := Tryd.sizeOf103
  v46 := Tryd.zeroValue103
  t51 := Tryd.underlying123
  a51 := Tryd.isAgg123
  z51 := Tryd.sizeOf123
  v51 := Tryd.zeroValue123
  t53 := Tryd.underlying118
  a53 := Tryd.isAgg118
  z53 := Tryd.sizeOf118
  v53 := Tryd.zeroValue118
  t171 := Tryd.underlying117
  a171 := Tryd.isAgg117
  z171 := Tryd.sizeOf117
  v171 := Tryd.zeroValue117
  t173 := Tryd.underlying121
  a173 := Tryd.isAgg121
  z173 := Tryd.sizeOf121
  v173 := Tryd.zeroValue121
  t212 := Tryd.underlying133
  a212 := Tryd.isAgg133
  z212 := Tryd.sizeOf133
  v212 := Tryd.zeroValue133
  t213 := Tryd.underlying134
  a213 := Tryd.isAgg134
  z213 := Tryd.sizeOf134
  t232 := Tryd.underlying146
  a232 := Tryd.isAgg146
  z232 := Tryd.sizeOf146
  v232 := Tryd.zeroValue146
  t233 := Tryd.underlying147
  a233 := Tryd.isAgg147
  z233 := Tryd.sizeOf147
  v233 := Tryd.zeroValue147
  g17 := by kernel_rfl
  g18 := by kernel_rfl
  g19 := by kernel_rfl
  i0 := by kernel_rfl
  i2 := by kernel_rfl
  i3 := by kernel_rfl
  i4 := by kernel_rfl
  i5 := by kernel_rfl
  i9 := by kernel_rfl
  i20 := by kernel_rfl
  i37 := by kernel_rfl
  i46 := by kernel_rfl
  i51 := by kernel_rfl
  i53 := by kernel_rfl
  i171 := by kernel_rfl
  i173 := by kernel_rfl
  i212 := by kernel_rfl
  i232 := by kernel_rfl
  i233 := by kernel_rfl
  m17 := by kernel_rfl
  m18 := by kernel_rfl
  m19 := by kernel_rfl }
open Go.RowKit Go.Sort Go.Lib in
/-- internal/strconv.FormatInt: "FormatInt returns the string representation of i in the given base": AT BASE 10: i's decimal numeral, for every int64. The world behind the call: the world before it, new blocks behind the heap, draws. (LAID: no walk: one application.) -/
theorem Tryd.internal_strconv_FormatInt_10 (n : Int) (h0 : -9223372036854775808 ≤ n) (h1 : n ≤ 9223372036854775807) (w : World) (htab : Lib.TabIs Tryd.prog w "internal/strconv.uint64pow10" .u64 Lib.pow10Tab) :
    Calls Tryd.prog 107 #[.int .i64 n, .int .i64 10] w fun e w' => e = .returned (.string ⟨(Lib.itoa n).toArray⟩) ∧ ∃ k os, w' = grow (w.drewN k) os := Any.internal_strconv_FormatInt_10 Tryd.laysM246 n h0 h1 w htab
def Tryd.lays246_ren : Go.Shelf.Ren := ⟨fun | 246 => 107 | 283 => 118 | 284 => 119 | 285 => 120 | 286 => 121 | 129 => 129 | 317 => 128 | 318 => 130 | 319 => 131 | 320 => 132 | 337 => 135 | 338 => 136 | n => n, fun | 2 => 2 | 3 => 3 | 9 => 9 | 4 => 4 | 171 => 117 | 0 => 0 | 53 => 118 | 37 => 48 | 5 => 5 | 173 => 121 | 212 => 133 | 51 => 123 | 20 => 20 | 213 => 134 | 46 => 103 | 232 => 146 | 233 => 147 | n => n, fun | 17 => 3 | 18 => 6 | 19 => 7 | n => n⟩
theorem Tryd.lays246 : Go.Proofs.Lays.n246 Tryd.prog Tryd.lays246_ren := {
  mixed := by kernel_rfl
  f129 := Tryd.func129.trans (congrArg some (by kernel_rfl))
  f246 := Tryd.func107.trans (congrArg some (by kernel_rfl))
  f283 := Tryd.func118.trans (congrArg some (by kernel_rfl))
  f284 := Tryd.func119.trans (congrArg some (by kernel_rfl))
  f285 := Tryd.func120.trans (congrArg some (by kernel_rfl))
  f286 := Tryd.func121.trans (congrArg some (by kernel_rfl))
  f317 := Tryd.func128.trans (congrArg some (by kernel_rfl))
  f318 := Tryd.func130.trans (congrArg some (by kernel_rfl))
  f319 := Tryd.func131.trans (congrArg some (by kernel_rfl))
  f320 := Tryd.func132.trans (congrArg some (by kernel_rfl))
  f337 := Tryd.func135.trans (congrArg some (by kernel_rfl))
  f338 := Tryd.func136.trans (congrArg some (by kernel_rfl))
  t0 := Tryd.underlying0
  a0 := Tryd.isAgg0
  z0 := Tryd.sizeOf0
  v0 := Tryd.zeroValue0
  t2 := Tryd.underlying2
  a2 := Tryd.isAgg2
  z2 := Tryd.sizeOf2
  v2 := Tryd.zeroValue2
  t3 := Tryd.underlying3
  a3 := Tryd.isAgg3
  z3 := Tryd.sizeOf3
  v3 := Tryd.zeroValue3
  t4 := Tryd.underlying4
  a4 := Tryd.isAgg4
  z4 := Tryd.sizeOf4
  v4 := Tryd.zeroValue4
  t5 := Tryd.underlying5
  a5 := Tryd.isAgg5
  z5 := Tryd.sizeOf5
  v5 := Tryd.zeroValue5
  t9 := Tryd.underlying9
  a9 := Tryd.isAgg9
  z9 := Tryd.sizeOf9
  v9 := Tryd.zeroValue9
  t20 := Tryd.underlying20
  a20 := Tryd.isAgg20
  z20 := Tryd.sizeOf20
  v20 := Tryd.zeroValue20
  t37 := Tryd.underlying48
  a37 := Tryd.isAgg48
  z37 := Tryd.sizeOf48
  v37 := Tryd.zeroValue48
  t46 := Tryd.underlying103
  a46 := Tryd.isAgg103
  z46 := Tryd.sizeOf103
  v46 := Tryd.zeroValue103
  t51 := Tryd.underlying123
  a51 := Tryd.isAgg123
  z51 := Tryd.sizeOf123
  v51 := Tryd.zeroValue123
  t53 := Tryd.underlying118
  a53 := Tryd.isAgg118
  z53 := Tryd.sizeOf118
  v53 := Tryd.zeroValue118
  t171 := Tryd.underlying117
  a171 := Tryd.isAgg117
  z171 := Tryd.sizeOf117
  v171 := Tryd.zeroValue117
  t173 := Tryd.underlying121
  a173 := Tryd.isAgg121
  z173 := Tryd.sizeOf121
  v173 := Tryd.zeroValue121
  t212 := Tryd.underlying133
  a212 := Tryd.isAgg133
  z212 := Tryd.sizeOf133
  v212 := Tryd.zeroValue133
  t213 := Tryd.underlying134
  a213 := Tryd.isAgg134
  z213 := Tryd.sizeOf134
  t232 := Tryd.underlying146
  a232 := Tryd.isAgg146
  z232 := Tryd.sizeOf146
  v232 := Tryd.zeroValue146
  t233 := Tryd.underlying147
  a233 := Tryd.isAgg147
  z233 := Tryd.sizeOf147
  v233 := Tryd.zeroValue147
  g17 := by kernel_rfl
  g18 := by kernel_rfl
  g19 := by kernel_rfl }
open Go.RowKit Go.Sort Go.Lib in
/-- THE ROAD WITHOUT THE TABLE: 0 <= i < 100: two constants are read, nothing is laid: no premise on the world, and the world is as it was. (LAID: no walk: one application.) -/
theorem Tryd.internal_strconv_FormatInt_10_small (i : Nat) (hi : i < 100) (w : World) :
    Calls Tryd.prog 107 #[.int .i64 i, .int .i64 10] w fun e w' => e = .returned (.string ⟨(Lib.decDigits i).toArray⟩) ∧ w' = w := Any.internal_strconv_FormatInt_10_small Tryd.lays246 i hi w
def Tryd.laysM243_ren : Go.Shelf.Ren := ⟨fun | 243 => 100 | 246 => 107 | 283 => 118 | 284 => 119 | 285 => 120 | 286 => 121 | 129 => 129 | 317 => 128 | 318 => 130 | 319 => 131 | 320 => 132 | 337 => 135 | 338 => 136 | n => n, fun | 3 => 3 | 9 => 9 | 2 => 2 | 4 => 4 | 171 => 117 | 0 => 0 | 53 => 118 | 37 => 48 | 5 => 5 | 173 => 121 | 212 => 133 | 51 => 123 | 20 => 20 | 213 => 134 | 46 => 103 | 232 => 146 | 233 => 147 | n => n, fun | 17 => 3 | 18 => 6 | 19 => 7 | n => n⟩
theorem Tryd.laysM243 : Go.Proofs.LaysM.n243 Tryd.prog Tryd.laysM243_ren := {
  mixed := by kernel_rfl
  f129 := Tryd.func129.trans (congrArg some (by kernel_rfl))
  f243 := Tryd.func100.trans (congrArg some (by kernel_rfl))
  f246 := Tryd.func107.trans (congrArg some (by kernel_rfl))
  f283 := Tryd.func118.trans (congrArg some (by kernel_rfl))
  f284 := Tryd.func119.trans (congrArg some (by kernel_rfl))
  f285 := Tryd.func120.trans (congrArg some (by kernel_rfl))
  f286 := Tryd.func121.trans (congrArg some (by kernel_rfl))
  f317 := Tryd.func128.trans (congrArg some (by kernel_rfl))
  f318 := Tryd.func130.trans (congrArg some (by kernel_rfl))
  f319 := Tryd.func131.trans (congrArg some (by kernel_rfl))
  f320 := Tryd.func132.trans (congrArg some (by kernel_rfl))
  f337 := Tryd.func135.trans (congrArg some (by kernel_rfl))
  f338 := Tryd.func136.trans (congrArg some (by kernel_rfl))
  t0 := Tryd.underlying0
  a0 := Tryd.isAgg0
  z0 := Tryd.sizeOf0
  v0 := Tryd.zeroValue0
  t2 := Tryd.underlying2
  a2 := Tryd.isAgg2
  z2 := Tryd.sizeOf2
  v2 := Tryd.zeroValue2
  t3 := Tryd.underlying3
  a3 := Tryd.isAgg3
  z3 := Tryd.sizeOf3
  v3 := Tryd.zeroValue3
  t4 := Tryd.underlying4
  a4 := Tryd.isAgg4
  z4 := Tryd.sizeOf4
  v4 := Tryd.zeroValue4
  t5 := Tryd.underlying5
  a5 := Tryd.isAgg5
  z5 := Tryd.sizeOf5
  v5 := Tryd.zeroValue5
  t9 := Tryd.underlying9
  a9 := Tryd.isAgg9
  z9 := Tryd.sizeOf9
  v9 := Tryd.zeroValue9
  t20 := Tryd.underlying20
  a20 := Tryd.isAgg20
  z20 := Tryd.sizeOf20
  v20 := Tryd.zeroValue20
  t37 := Tryd.underlying48
  a37 := Tryd.isAgg48
  z37 := Tryd.sizeOf48
  v37 := Tryd.zeroValue48
  t46 := Tryd.underlying103
  a46 := Tryd.isAgg103
  z46 := Tryd.sizeOf103
  v46 := Tryd.zeroValue103
  t51 := Tryd.underlying123
  a51 := Tryd.isAgg123
  z51 := Tryd.sizeOf123
  v51 := Tryd.zeroValue123
  t53 := Tryd.underlying118
  a53 := Tryd.isAgg118
  z53 := Tryd.sizeOf118
  v53 := Tryd.zeroValue118
  t171 := Tryd.underlying117
  a171 := Tryd.isAgg117
  z171 := Tryd.sizeOf117
  v171 := Tryd.zeroValue117
  t173 := Tryd.underlying121
  a173 := Tryd.isAgg121
  z173 := Tryd.sizeOf121
  v173 := Tryd.zeroValue121
  t212 := Tryd.underlying133
  a212 := Tryd.isAgg133
  z212 := Tryd.sizeOf133
  v212 := Tryd.zeroValue133
  t213 := Tryd.underlying134
  a213 := Tryd.isAgg134
  z213 := Tryd.sizeOf134
  t232 := Tryd.underlying146
  a232 := Tryd.isAgg146
  z232 := Tryd.sizeOf146
  v232 := Tryd.zeroValue146
  t233 := Tryd.underlying147
  a233 := Tryd.isAgg147
  z233 := Tryd.sizeOf147
  v233 := Tryd.zeroValue147
  g17 := by kernel_rfl
  g18 := by kernel_rfl
  g19 := by kernel_rfl
  i0 := by kernel_rfl
  i2 := by kernel_rfl
  i3 := by kernel_rfl
  i4 := by kernel_rfl
  i5 := by kernel_rfl
  i9 := by kernel_rfl
  i20 := by kernel_rfl
  i37 := by kernel_rfl
  i46 := by kernel_rfl
  i51 := by kernel_rfl
  i53 := by kernel_rfl
  i171 := by kernel_rfl
  i173 := by kernel_rfl
  i212 := by kernel_rfl
  i232 := by kernel_rfl
  i233 := by kernel_rfl
  m17 := by kernel_rfl
  m18 := by kernel_rfl
  m19 := by kernel_rfl }
open Go.RowKit Go.Sort Go.Lib in
/-- internal/strconv.Itoa: "Itoa is equivalent to FormatInt(int64(i), 10).": i's decimal numeral, for every int. (LAID: no walk: one application.) -/
theorem Tryd.internal_strconv_Itoa (n : Int) (h0 : -9223372036854775808 ≤ n) (h1 : n ≤ 9223372036854775807) (w : World) (htab : Lib.TabIs Tryd.prog w "internal/strconv.uint64pow10" .u64 Lib.pow10Tab) :
    Calls Tryd.prog 100 #[.int .i64 n] w fun e w' => e = .returned (.string ⟨(Lib.itoa n).toArray⟩) ∧ ∃ k os, w' = grow (w.drewN k) os := Any.internal_strconv_Itoa Tryd.laysM243 n h0 h1 w htab
def Tryd.lays243_ren : Go.Shelf.Ren := ⟨fun | 243 => 100 | 246 => 107 | 283 => 118 | 284 => 119 | 285 => 120 | 286 => 121 | 129 => 129 | 317 => 128 | 318 => 130 | 319 => 131 | 320 => 132 | 337 => 135 | 338 => 136 | n => n, fun | 3 => 3 | 9 => 9 | 2 => 2 | 4 => 4 | 171 => 117 | 0 => 0 | 53 => 118 | 37 => 48 | 5 => 5 | 173 => 121 | 212 => 133 | 51 => 123 | 20 => 20 | 213 => 134 | 46 => 103 | 232 => 146 | 233 => 147 | n => n, fun | 17 => 3 | 18 => 6 | 19 => 7 | n => n⟩
theorem Tryd.lays243 : Go.Proofs.Lays.n243 Tryd.prog Tryd.lays243_ren := {
  mixed := by kernel_rfl
  f129 := Tryd.func129.trans (congrArg some (by kernel_rfl))
  f243 := Tryd.func100.trans (congrArg some (by kernel_rfl))
  f246 := Tryd.func107.trans (congrArg some (by kernel_rfl))
  f283 := Tryd.func118.trans (congrArg some (by kernel_rfl))
  f284 := Tryd.func119.trans (congrArg some (by kernel_rfl))
  f285 := Tryd.func120.trans (congrArg some (by kernel_rfl))
  f286 := Tryd.func121.trans (congrArg some (by kernel_rfl))
  f317 := Tryd.func128.trans (congrArg some (by kernel_rfl))
  f318 := Tryd.func130.trans (congrArg some (by kernel_rfl))
  f319 := Tryd.func131.trans (congrArg some (by kernel_rfl))
  f320 := Tryd.func132.trans (congrArg some (by kernel_rfl))
  f337 := Tryd.func135.trans (congrArg some (by kernel_rfl))
  f338 := Tryd.func136.trans (congrArg some (by kernel_rfl))
  t0 := Tryd.underlying0
  a0 := Tryd.isAgg0
  z0 := Tryd.sizeOf0
  v0 := Tryd.zeroValue0
  t2 := Tryd.underlying2
  a2 := Tryd.isAgg2
  z2 := Tryd.sizeOf2
  v2 := Tryd.zeroValue2
  t3 := Tryd.underlying3
  a3 := Tryd.isAgg3
  z3 := Tryd.sizeOf3
  v3 := Tryd.zeroValue3
  t4 := Tryd.underlying4
  a4 := Tryd.isAgg4
  z4 := Tryd.sizeOf4
  v4 := Tryd.zeroValue4
  t5 := Tryd.underlying5
  a5 := Tryd.isAgg5
  z5 := Tryd.sizeOf5
  v5 := Tryd.zeroValue5
  t9 := Tryd.underlying9
  a9 := Tryd.isAgg9
  z9 := Tryd.sizeOf9
  v9 := Tryd.zeroValue9
  t20 := Tryd.underlying20
  a20 := Tryd.isAgg20
  z20 := Tryd.sizeOf20
  v20 := Tryd.zeroValue20
  t37 := Tryd.underlying48
  a37 := Tryd.isAgg48
  z37 := Tryd.sizeOf48
  v37 := Tryd.zeroValue48
  t46 := Tryd.underlying103
  a46 := Tryd.isAgg103
  z46 := Tryd.sizeOf103
  v46 := Tryd.zeroValue103
  t51 := Tryd.underlying123
  a51 := Tryd.isAgg123
  z51 := Tryd.sizeOf123
  v51 := Tryd.zeroValue123
  t53 := Tryd.underlying118
  a53 := Tryd.isAgg118
  z53 := Tryd.sizeOf118
  v53 := Tryd.zeroValue118
  t171 := Tryd.underlying117
  a171 := Tryd.isAgg117
  z171 := Tryd.sizeOf117
  v171 := Tryd.zeroValue117
  t173 := Tryd.underlying121
  a173 := Tryd.isAgg121
  z173 := Tryd.sizeOf121
  v173 := Tryd.zeroValue121
  t212 := Tryd.underlying133
  a212 := Tryd.isAgg133
  z212 := Tryd.sizeOf133
  v212 := Tryd.zeroValue133
  t213 := Tryd.underlying134
  a213 := Tryd.isAgg134
  z213 := Tryd.sizeOf134
  t232 := Tryd.underlying146
  a232 := Tryd.isAgg146
  z232 := Tryd.sizeOf146
  v232 := Tryd.zeroValue146
  t233 := Tryd.underlying147
  a233 := Tryd.isAgg147
  z233 := Tryd.sizeOf147
  v233 := Tryd.zeroValue147
  g17 := by kernel_rfl
  g18 := by kernel_rfl
  g19 := by kernel_rfl }
open Go.RowKit Go.Sort Go.Lib in
/-- THE ROAD WITHOUT THE TABLE: 0 <= i < 100. (LAID: no walk: one application.) -/
theorem Tryd.internal_strconv_Itoa_small (i : Nat) (hi : i < 100) (w : World) :
    Calls Tryd.prog 100 #[.int .i64 i] w fun e w' => e = .returned (.string ⟨(Lib.decDigits i).toArray⟩) ∧ w' = w := Any.internal_strconv_Itoa_small Tryd.lays243 i hi w
def Tryd.laysM171_ren : Go.Shelf.Ren := ⟨fun | 171 => 86 | 243 => 100 | 246 => 107 | 283 => 118 | 284 => 119 | 285 => 120 | 286 => 121 | 129 => 129 | 317 => 128 | 318 => 130 | 319 => 131 | 320 => 132 | 337 => 135 | 338 => 136 | n => n, fun | 3 => 3 | 9 => 9 | 2 => 2 | 4 => 4 | 171 => 117 | 0 => 0 | 53 => 118 | 37 => 48 | 5 => 5 | 173 => 121 | 212 => 133 | 51 => 123 | 20 => 20 | 213 => 134 | 46 => 103 | 232 => 146 | 233 => 147 | n => n, fun | 17 => 3 | 18 => 6 | 19 => 7 | n => n⟩
theorem Tryd.laysM171 : Go.Proofs.LaysM.n171 Tryd.prog Tryd.laysM171_ren := {
  mixed := by kernel_rfl
  f129 := Tryd.func129.trans (congrArg some (by kernel_rfl))
  f171 := Tryd.func86.trans (congrArg some (by kernel_rfl))
  f243 := Tryd.func100.trans (congrArg some (by kernel_rfl))
  f246 := Tryd.func107.trans (congrArg some (by kernel_rfl))
  f283 := Tryd.func118.trans (congrArg some (by kernel_rfl))
  f284 := Tryd.func119.trans (congrArg some (by kernel_rfl))
  f285 := Tryd.func120.trans (congrArg some (by kernel_rfl))
  f286 := Tryd.func121.trans (congrArg some (by kernel_rfl))
  f317 := Tryd.func128.trans (congrArg some (by kernel_rfl))
  f318 := Tryd.func130.trans (congrArg some (by kernel_rfl))
  f319 := Tryd.func131.trans (congrArg some (by kernel_rfl))
  f320 := Tryd.func132.trans (congrArg some (by kernel_rfl))
  f337 := Tryd.func135.trans (congrArg some (by kernel_rfl))
  f338 := Tryd.func136.trans (congrArg some (by kernel_rfl))
  t0 := Tryd.underlying0
  a0 := Tryd.isAgg0
  z0 := Tryd.sizeOf0
  v0 := Tryd.zeroValue0
  t2 := Tryd.underlying2
  a2 := Tryd.isAgg2
  z2 := Tryd.sizeOf2
  v2 := Tryd.zeroValue2
  t3 := Tryd.underlying3
  a3 := Tryd.isAgg3
  z3 := Tryd.sizeOf3
  v3 := Tryd.zeroValue3
  t4 := Tryd.underlying4
  a4 := Tryd.isAgg4
  z4 := Tryd.sizeOf4
  v4 := Tryd.zeroValue4
  t5 := Tryd.underlying5
  a5 := Tryd.isAgg5
  z5 := Tryd.sizeOf5
  v5 := Tryd.zeroValue5
  t9 := Tryd.underlying9
  a9 := Tryd.isAgg9
  z9 := Tryd.sizeOf9
  v9 := Tryd.zeroValue9
  t20 := Tryd.underlying20
  a20 := Tryd.isAgg20
  z20 := Tryd.sizeOf20
  v20 := Tryd.zeroValue20
  t37 := Tryd.underlying48
  a37 := Tryd.isAgg48
  z37 := Tryd.sizeOf48
  v37 := Tryd.zeroValue48
  t46 := Tryd.underlying103
  a46 := Tryd.isAgg103
  z46 := Tryd.sizeOf103
  v46 := Tryd.zeroValue103
  t51 := Tryd.underlying123
  a51 := Tryd.isAgg123
  z51 := Tryd.sizeOf123
  v51 := Tryd.zeroValue123
  t53 := Tryd.underlying118
  a53 := Tryd.isAgg118
  z53 := Tryd.sizeOf118
  v53 := Tryd.zeroValue118
  t171 := Tryd.underlying117
  a171 := Tryd.isAgg117
  z171 := Tryd.sizeOf117
  v171 := Tryd.zeroValue117
  t173 := Tryd.underlying121
  a173 := Tryd.isAgg121
  z173 := Tryd.sizeOf121
  v173 := Tryd.zeroValue121
  t212 := Tryd.underlying133
  a212 := Tryd.isAgg133
  z212 := Tryd.sizeOf133
  v212 := Tryd.zeroValue133
  t213 := Tryd.underlying134
  a213 := Tryd.isAgg134
  z213 := Tryd.sizeOf134
  t232 := Tryd.underlying146
  a232 := Tryd.isAgg146
  z232 := Tryd.sizeOf146
  v232 := Tryd.zeroValue146
  t233 := Tryd.underlying147
  a233 := Tryd.isAgg147
  z233 := Tryd.sizeOf147
  v233 := Tryd.zeroValue147
  g17 := by kernel_rfl
  g18 := by kernel_rfl
  g19 := by kernel_rfl
  i0 := by kernel_rfl
  i2 := by kernel_rfl
  i3 := by kernel_rfl
  i4 := by kernel_rfl
  i5 := by kernel_rfl
  i9 := by kernel_rfl
  i20 := by kernel_rfl
  i37 := by kernel_rfl
  i46 := by kernel_rfl
  i51 := by kernel_rfl
  i53 := by kernel_rfl
  i171 := by kernel_rfl
  i173 := by kernel_rfl
  i212 := by kernel_rfl
  i232 := by kernel_rfl
  i233 := by kernel_rfl
  m17 := by kernel_rfl
  m18 := by kernel_rfl
  m19 := by kernel_rfl }
open Go.RowKit Go.Sort Go.Lib in
/-- strconv.Itoa: "Itoa is equivalent to FormatInt(int64(i), 10).": i's DECIMAL NUMERAL ('Lib.itoa': a '-' where i is negative, then the digits), FOR EVERY int. The world behind the call: the world before it, new blocks behind the heap (the library's 'var a [24]byte'), draws. (LAID: no walk: one application.) -/
theorem Tryd.strconv_Itoa (n : Int) (h0 : -9223372036854775808 ≤ n) (h1 : n ≤ 9223372036854775807) (w : World) (htab : Lib.TabIs Tryd.prog w "internal/strconv.uint64pow10" .u64 Lib.pow10Tab) :
    Calls Tryd.prog 86 #[.int .i64 n] w fun e w' => e = .returned (.string ⟨(Lib.itoa n).toArray⟩) ∧ ∃ k os, w' = grow (w.drewN k) os := Any.strconv_Itoa Tryd.laysM171 n h0 h1 w htab
def Tryd.lays171_ren : Go.Shelf.Ren := ⟨fun | 171 => 86 | 243 => 100 | 246 => 107 | 283 => 118 | 284 => 119 | 285 => 120 | 286 => 121 | 129 => 129 | 317 => 128 | 318 => 130 | 319 => 131 | 320 => 132 | 337 => 135 | 338 => 136 | n => n, fun | 3 => 3 | 9 => 9 | 2 => 2 | 4 => 4 | 171 => 117 | 0 => 0 | 53 => 118 | 37 => 48 | 5 => 5 | 173 => 121 | 212 => 133 | 51 => 123 | 20 => 20 | 213 => 134 | 46 => 103 | 232 => 146 | 233 => 147 | n => n, fun | 17 => 3 | 18 => 6 | 19 => 7 | n => n⟩
theorem Tryd.lays171 : Go.Proofs.Lays.n171 Tryd.prog Tryd.lays171_ren := {
  mixed := by kernel_rfl
  f129 := Tryd.func129.trans (congrArg some (by kernel_rfl))
  f171 := Tryd.func86.trans (congrArg some (by kernel_rfl))
  f243 := Tryd.func100.trans (congrArg some (by kernel_rfl))
  f246 := Tryd.func107.trans (congrArg some (by kernel_rfl))
  f283 := Tryd.func118.trans (congrArg some (by kernel_rfl))
  f284 := Tryd.func119.trans (congrArg some (by kernel_rfl))
  f285 := Tryd.func120.trans (congrArg some (by kernel_rfl))
  f286 := Tryd.func121.trans (congrArg some (by kernel_rfl))
  f317 := Tryd.func128.trans (congrArg some (by kernel_rfl))
  f318 := Tryd.func130.trans (congrArg some (by kernel_rfl))
  f319 := Tryd.func131.trans (congrArg some (by kernel_rfl))
  f320 := Tryd.func132.trans (congrArg some (by kernel_rfl))
  f337 := Tryd.func135.trans (congrArg some (by kernel_rfl))
  f338 := Tryd.func136.trans (congrArg some (by kernel_rfl))
  t0 := Tryd.underlying0
  a0 := Tryd.isAgg0
  z0 := Tryd.sizeOf0
  v0 := Tryd.zeroValue0
  t2 := Tryd.underlying2
  a2 := Tryd.isAgg2
  z2 := Tryd.sizeOf2
  v2 := Tryd.zeroValue2
  t3 := Tryd.underlying3
  a3 := Tryd.isAgg3
  z3 := Tryd.sizeOf3
  v3 := Tryd.zeroValue3
  t4 := Tryd.underlying4
  a4 := Tryd.isAgg4
  z4 := Tryd.sizeOf4
  v4 := Tryd.zeroValue4
  t5 := Tryd.underlying5
  a5 := Tryd.isAgg5
  z5 := Tryd.sizeOf5
  v5 := Tryd.zeroValue5
  t9 := Tryd.underlying9
  a9 := Tryd.isAgg9
  z9 := Tryd.sizeOf9
  v9 := Tryd.zeroValue9
  t20 := Tryd.underlying20
  a20 := Tryd.isAgg20
  z20 := Tryd.sizeOf20
  v20 := Tryd.zeroValue20
  t37 := Tryd.underlying48
  a37 := Tryd.isAgg48
  z37 := Tryd.sizeOf48
  v37 := Tryd.zeroValue48
  t46 := Tryd.underlying103
  a46 := Tryd.isAgg103
  z46 := Tryd.sizeOf103
  v46 := Tryd.zeroValue103
  t51 := Tryd.underlying123
  a51 := Tryd.isAgg123
  z51 := Tryd.sizeOf123
  v51 := Tryd.zeroValue123
  t53 := Tryd.underlying118
  a53 := Tryd.isAgg118
  z53 := Tryd.sizeOf118
  v53 := Tryd.zeroValue118
  t171 := Tryd.underlying117
  a171 := Tryd.isAgg117
  z171 := Tryd.sizeOf117
  v171 := Tryd.zeroValue117
  t173 := Tryd.underlying121
  a173 := Tryd.isAgg121
  z173 := Tryd.sizeOf121
  v173 := Tryd.zeroValue121
  t212 := Tryd.underlying133
  a212 := Tryd.isAgg133
  z212 := Tryd.sizeOf133
  v212 := Tryd.zeroValue133
  t213 := Tryd.underlying134
  a213 := Tryd.isAgg134
  z213 := Tryd.sizeOf134
  t232 := Tryd.underlying146
  a232 := Tryd.isAgg146
  z232 := Tryd.sizeOf146
  v232 := Tryd.zeroValue146
  t233 := Tryd.underlying147
  a233 := Tryd.isAgg147
  z233 := Tryd.sizeOf147
  v233 := Tryd.zeroValue147
  g17 := by kernel_rfl
  g18 := by kernel_rfl
  g19 := by kernel_rfl }
open Go.RowKit Go.Sort Go.Lib in
/-- THE ROAD WITHOUT THE TABLE: 0 <= i < 100: NO PREMISE ON THE WORLD, AND THE WORLD IS AS IT WAS: a row that keeps its argument in that range need list no table ('laid = []'). (LAID: no walk: one application.) -/
theorem Tryd.strconv_Itoa_small (i : Nat) (hi : i < 100) (w : World) :
    Calls Tryd.prog 86 #[.int .i64 i] w fun e w' => e = .returned (.string ⟨(Lib.decDigits i).toArray⟩) ∧ w' = w := Any.strconv_Itoa_small Tryd.lays171 i hi w
def Tryd.lays217_ren : Go.Shelf.Ren := ⟨fun | 217 => 108 | 266 => 122 | n => n, fun | 9 => 9 | 5 => 5 | 3 => 3 | n => n, fun | n => n⟩
theorem Tryd.lays217 : Go.Proofs.Lays.n217 Tryd.prog Tryd.lays217_ren := {
  mixed := by kernel_rfl
  f217 := Tryd.func108.trans (congrArg some (by kernel_rfl))
  f266 := Tryd.func122.trans (congrArg some (by kernel_rfl))
  t3 := Tryd.underlying3
  a3 := Tryd.isAgg3
  z3 := Tryd.sizeOf3
  v3 := Tryd.zeroValue3
  t5 := Tryd.underlying5
  a5 := Tryd.isAgg5
  z5 := Tryd.sizeOf5
  v5 := Tryd.zeroValue5
  t9 := Tryd.underlying9
  a9 := Tryd.isAgg9
  z9 := Tryd.sizeOf9
  v9 := Tryd.zeroValue9 }
open Go.RowKit Go.Lib in
/-- internal/stringslite.IndexByte (what strings.IndexByte calls): IT RETURNS 'Lib.indexByte s c'; the world is as it was. (LAID: no walk: one application.) -/
theorem Tryd.stringslite_IndexByte (s : ByteArray) (c : Int) (w : World) :
    Calls Tryd.prog 108 #[.string s, .int .u8 c] w fun e w' => e = .returned (.int .i64 (Lib.indexByte s.data.toList c.toNat.toUInt8)) ∧ w' = w := Any.stringslite_IndexByte Tryd.lays217 s c w
def Tryd.lays224_ren : Go.Shelf.Ren := ⟨fun | 224 => 110 | n => n, fun | 3 => 3 | n => n, fun | n => n⟩
theorem Tryd.lays224 : Go.Proofs.Lays.n224 Tryd.prog Tryd.lays224_ren := {
  mixed := by kernel_rfl
  f224 := Tryd.func110.trans (congrArg some (by kernel_rfl))
  t3 := Tryd.underlying3
  a3 := Tryd.isAgg3
  z3 := Tryd.sizeOf3
  v3 := Tryd.zeroValue3 }
open Go.RowKit Go.Lib in
/-- internal/bytealg.Cutover: "Cutover reports the number of failures of IndexByte we should tolerate before switching over to Index. n is the number of bytes processed so far.": on amd64: (n + 16) / 8. (LAID: no walk: one application.) -/
theorem Tryd.bytealg_Cutover (n : Int) (h0 : 0 ≤ n) (h1 : n < 4611686018427387904) (w : World) :
    Calls Tryd.prog 110 #[.int .i64 n] w fun e w' => e = .returned (.int .i64 ((n + 16) / 8)) ∧ w' = w := Any.bytealg_Cutover Tryd.lays224 n h0 h1 w
def Tryd.lays314_ren : Go.Shelf.Ren := ⟨fun | 314 => 123 | n => n, fun | 9 => 9 | 51 => 123 | 3 => 3 | 4 => 4 | 5 => 5 | 46 => 103 | n => n, fun | n => n⟩
theorem Tryd.lays314 : Go.Proofs.Lays.n314 Tryd.prog Tryd.lays314_ren := {
  mixed := by kernel_rfl
  f314 := Tryd.func123.trans (congrArg some (by kernel_rfl))
  t3 := Tryd.underlying3
  a3 := Tryd.isAgg3
  z3 := Tryd.sizeOf3
  v3 := Tryd.zeroValue3
  t4 := Tryd.underlying4
  a4 := Tryd.isAgg4
  z4 := Tryd.sizeOf4
  v4 := Tryd.zeroValue4
  t5 := Tryd.underlying5
  a5 := Tryd.isAgg5
  z5 := Tryd.sizeOf5
  v5 := Tryd.zeroValue5
  t9 := Tryd.underlying9
  a9 := Tryd.isAgg9
  z9 := Tryd.sizeOf9
  v9 := Tryd.zeroValue9
  t46 := Tryd.underlying103
  a46 := Tryd.isAgg103
  z46 := Tryd.sizeOf103
  v46 := Tryd.zeroValue103
  t51 := Tryd.underlying123
  a51 := Tryd.isAgg123
  z51 := Tryd.sizeOf123
  v51 := Tryd.zeroValue123 }
open Go.RowKit Go.Lib in
/-- hashStr: "returns the hash and the appropriate multiplicative factor for use in Rabin-Karp algorithm": THE HASH OF ALL OF sep, AND 16777619 ^ len(sep), both in uint32. (LAID: no walk: one application.) -/
theorem Tryd.bytealg_hashStr (sep : ByteArray) (hs : sep.size < 4294967281) (w : World) :
    Calls Tryd.prog 123 #[.string sep] w fun e w' => e = .returned (.tuple #[.int .u32 (RK.H sep.data.toList % 4294967296), .int .u32 (16777619 ^ sep.size % 4294967296)]) ∧ w' = w := Any.bytealg_hashStr Tryd.lays314 sep hs w
def Tryd.lays267_ren : Go.Shelf.Ren := ⟨fun | 267 => 111 | 314 => 123 | n => n, fun | 9 => 9 | 3 => 3 | 146 => 124 | 51 => 123 | 4 => 4 | 5 => 5 | 46 => 103 | n => n, fun | n => n⟩
theorem Tryd.lays267 : Go.Proofs.Lays.n267 Tryd.prog Tryd.lays267_ren := {
  mixed := by kernel_rfl
  f267 := Tryd.func111.trans (congrArg some (by kernel_rfl))
  f314 := Tryd.func123.trans (congrArg some (by kernel_rfl))
  t3 := Tryd.underlying3
  a3 := Tryd.isAgg3
  z3 := Tryd.sizeOf3
  v3 := Tryd.zeroValue3
  t4 := Tryd.underlying4
  a4 := Tryd.isAgg4
  z4 := Tryd.sizeOf4
  v4 := Tryd.zeroValue4
  t5 := Tryd.underlying5
  a5 := Tryd.isAgg5
  z5 := Tryd.sizeOf5
  v5 := Tryd.zeroValue5
  t9 := Tryd.underlying9
  a9 := Tryd.isAgg9
  z9 := Tryd.sizeOf9
  v9 := Tryd.zeroValue9
  t46 := Tryd.underlying103
  a46 := Tryd.isAgg103
  z46 := Tryd.sizeOf103
  v46 := Tryd.zeroValue103
  t51 := Tryd.underlying123
  a51 := Tryd.isAgg123
  z51 := Tryd.sizeOf123
  v51 := Tryd.zeroValue123
  t146 := Tryd.underlying124
  a146 := Tryd.isAgg124
  z146 := Tryd.sizeOf124
  v146 := Tryd.zeroValue124 }
open Go.RowKit Go.Lib in
theorem Tryd.bytealg_IndexRabinKarp (s sep : ByteArray) (h1 : 1 ≤ sep.size) (h2 : sep.size ≤ s.size) (hs : s.size < 4294967281) (w : World) :
    Calls Tryd.prog 111 #[.string s, .string sep] w fun e w' => e = .returned (.int .i64 (Lib.index s.data.toList sep.data.toList)) ∧ w' = w := Any.bytealg_IndexRabinKarp Tryd.lays267 s sep h1 h2 hs w
def Tryd.lays219_ren : Go.Shelf.Ren := ⟨fun | 219 => 101 | 217 => 108 | 225 => 109 | 224 => 110 | 267 => 111 | 266 => 122 | 314 => 123 | n => n, fun | 9 => 9 | 3 => 3 | 4 => 4 | 5 => 5 | 46 => 103 | 146 => 124 | 51 => 123 | n => n, fun | 1 => 0 | n => n⟩
theorem Tryd.lays219 : Go.Proofs.Lays.n219 Tryd.prog Tryd.lays219_ren := {
  mixed := by kernel_rfl
  f217 := Tryd.func108.trans (congrArg some (by kernel_rfl))
  f219 := Tryd.func101.trans (congrArg some (by kernel_rfl))
  f224 := Tryd.func110.trans (congrArg some (by kernel_rfl))
  f225 := Tryd.func109.trans (congrArg some (by kernel_rfl))
  f266 := Tryd.func122.trans (congrArg some (by kernel_rfl))
  f267 := Tryd.func111.trans (congrArg some (by kernel_rfl))
  f314 := Tryd.func123.trans (congrArg some (by kernel_rfl))
  t3 := Tryd.underlying3
  a3 := Tryd.isAgg3
  z3 := Tryd.sizeOf3
  v3 := Tryd.zeroValue3
  t4 := Tryd.underlying4
  a4 := Tryd.isAgg4
  z4 := Tryd.sizeOf4
  v4 := Tryd.zeroValue4
  t5 := Tryd.underlying5
  a5 := Tryd.isAgg5
  z5 := Tryd.sizeOf5
  v5 := Tryd.zeroValue5
  t9 := Tryd.underlying9
  a9 := Tryd.isAgg9
  z9 := Tryd.sizeOf9
  v9 := Tryd.zeroValue9
  t46 := Tryd.underlying103
  a46 := Tryd.isAgg103
  z46 := Tryd.sizeOf103
  v46 := Tryd.zeroValue103
  t51 := Tryd.underlying123
  a51 := Tryd.isAgg123
  z51 := Tryd.sizeOf123
  v51 := Tryd.zeroValue123
  t146 := Tryd.underlying124
  a146 := Tryd.isAgg124
  z146 := Tryd.sizeOf124
  v146 := Tryd.zeroValue124
  g1 := by kernel_rfl }
open Go.RowKit Go.Lib in
/-- internal/stringslite.Index (what strings.Index calls) AT A substr OF ONE BYTE c: IT RETURNS 'Lib.indexByte s c'; the world is as it was. (LAID: no walk: one application.) -/
theorem Tryd.stringslite_Index_one (s : ByteArray) (c : UInt8) (w : World) :
    Calls Tryd.prog 101 #[.string s, .string ⟨#[c]⟩] w fun e w' => e = .returned (.int .i64 (Lib.indexByte s.data.toList c)) ∧ w' = w := Any.stringslite_Index_one Tryd.lays219 s c w
open Go.RowKit Go.Lib in
/-- internal/stringslite.Index (what strings.Index calls) AT A substr OF WHATEVER LENGTH: IT RETURNS 'Lib.index s substr'; the world is as it was. 'm': what internal/bytealg.MaxLen holds: whatever. (LAID: no walk: one application.) -/
theorem Tryd.stringslite_Index (s sub : ByteArray) (m : Int) (w : World) (hs : s.size < 4294967281) (hm : w.cell? ⟨0, 0, none⟩ = some (.int .i64 m)) :
    Calls Tryd.prog 101 #[.string s, .string sub] w fun e w' => e = .returned (.int .i64 (Lib.index s.data.toList sub.data.toList)) ∧ w' = w := Any.stringslite_Index Tryd.lays219 s sub m w hs hm
def Tryd.lays143_ren : Go.Shelf.Ren := ⟨fun | 143 => 89 | 219 => 101 | 217 => 108 | 225 => 109 | 224 => 110 | 267 => 111 | 266 => 122 | 314 => 123 | n => n, fun | 9 => 9 | 3 => 3 | 4 => 4 | 5 => 5 | 46 => 103 | 146 => 124 | 51 => 123 | n => n, fun | 1 => 0 | n => n⟩
theorem Tryd.lays143 : Go.Proofs.Lays.n143 Tryd.prog Tryd.lays143_ren := {
  mixed := by kernel_rfl
  f143 := Tryd.func89.trans (congrArg some (by kernel_rfl))
  f217 := Tryd.func108.trans (congrArg some (by kernel_rfl))
  f219 := Tryd.func101.trans (congrArg some (by kernel_rfl))
  f224 := Tryd.func110.trans (congrArg some (by kernel_rfl))
  f225 := Tryd.func109.trans (congrArg some (by kernel_rfl))
  f266 := Tryd.func122.trans (congrArg some (by kernel_rfl))
  f267 := Tryd.func111.trans (congrArg some (by kernel_rfl))
  f314 := Tryd.func123.trans (congrArg some (by kernel_rfl))
  t3 := Tryd.underlying3
  a3 := Tryd.isAgg3
  z3 := Tryd.sizeOf3
  v3 := Tryd.zeroValue3
  t4 := Tryd.underlying4
  a4 := Tryd.isAgg4
  z4 := Tryd.sizeOf4
  v4 := Tryd.zeroValue4
  t5 := Tryd.underlying5
  a5 := Tryd.isAgg5
  z5 := Tryd.sizeOf5
  v5 := Tryd.zeroValue5
  t9 := Tryd.underlying9
  a9 := Tryd.isAgg9
  z9 := Tryd.sizeOf9
  v9 := Tryd.zeroValue9
  t46 := Tryd.underlying103
  a46 := Tryd.isAgg103
  z46 := Tryd.sizeOf103
  v46 := Tryd.zeroValue103
  t51 := Tryd.underlying123
  a51 := Tryd.isAgg123
  z51 := Tryd.sizeOf123
  v51 := Tryd.zeroValue123
  t146 := Tryd.underlying124
  a146 := Tryd.isAgg124
  z146 := Tryd.sizeOf124
  v146 := Tryd.zeroValue124
  g1 := by kernel_rfl }
open Go.RowKit Go.Lib in
/-- strings.Index: "Index returns the index of the first instance of substr in s, or -1 if substr is not present in s.": AT A substr OF ONE BYTE c: IT RETURNS 'Lib.indexByte s c'; the world is as it was. (LAID: no walk: one application.) -/
theorem Tryd.strings_Index_one (s : ByteArray) (c : UInt8) (w : World) :
    Calls Tryd.prog 89 #[.string s, .string ⟨#[c]⟩] w fun e w' => e = .returned (.int .i64 (Lib.indexByte s.data.toList c)) ∧ w' = w := Any.strings_Index_one Tryd.lays143 s c w
open Go.RowKit Go.Lib in
/-- strings.Index: "Index returns the index of the first instance of substr in s, or -1 if substr is not present in s.": IT RETURNS 'Lib.index s substr'; the world is as it was. (LAID: no walk: one application.) -/
theorem Tryd.strings_Index (s sub : ByteArray) (m : Int) (w : World) (hs : s.size < 4294967281) (hm : w.cell? ⟨0, 0, none⟩ = some (.int .i64 m)) :
    Calls Tryd.prog 89 #[.string s, .string sub] w fun e w' => e = .returned (.int .i64 (Lib.index s.data.toList sub.data.toList)) ∧ w' = w := Any.strings_Index Tryd.lays143 s sub m w hs hm
def Tryd.lays220_ren : Go.Shelf.Ren := ⟨fun | 220 => 91 | 219 => 101 | 217 => 108 | 225 => 109 | 224 => 110 | 267 => 111 | 266 => 122 | 314 => 123 | n => n, fun | 9 => 9 | 4 => 4 | 3 => 3 | 5 => 5 | 46 => 103 | 146 => 124 | 51 => 123 | n => n, fun | 1 => 0 | n => n⟩
theorem Tryd.lays220 : Go.Proofs.Lays.n220 Tryd.prog Tryd.lays220_ren := {
  mixed := by kernel_rfl
  f217 := Tryd.func108.trans (congrArg some (by kernel_rfl))
  f219 := Tryd.func101.trans (congrArg some (by kernel_rfl))
  f220 := Tryd.func91.trans (congrArg some (by kernel_rfl))
  f224 := Tryd.func110.trans (congrArg some (by kernel_rfl))
  f225 := Tryd.func109.trans (congrArg some (by kernel_rfl))
  f266 := Tryd.func122.trans (congrArg some (by kernel_rfl))
  f267 := Tryd.func111.trans (congrArg some (by kernel_rfl))
  f314 := Tryd.func123.trans (congrArg some (by kernel_rfl))
  t3 := Tryd.underlying3
  a3 := Tryd.isAgg3
  z3 := Tryd.sizeOf3
  v3 := Tryd.zeroValue3
  t4 := Tryd.underlying4
  a4 := Tryd.isAgg4
  z4 := Tryd.sizeOf4
  v4 := Tryd.zeroValue4
  t5 := Tryd.underlying5
  a5 := Tryd.isAgg5
  z5 := Tryd.sizeOf5
  v5 := Tryd.zeroValue5
  t9 := Tryd.underlying9
  a9 := Tryd.isAgg9
  z9 := Tryd.sizeOf9
  v9 := Tryd.zeroValue9
  t46 := Tryd.underlying103
  a46 := Tryd.isAgg103
  z46 := Tryd.sizeOf103
  v46 := Tryd.zeroValue103
  t51 := Tryd.underlying123
  a51 := Tryd.isAgg123
  z51 := Tryd.sizeOf123
  v51 := Tryd.zeroValue123
  t146 := Tryd.underlying124
  a146 := Tryd.isAgg124
  z146 := Tryd.sizeOf124
  v146 := Tryd.zeroValue124
  g1 := by kernel_rfl }
open Go.RowKit Go.Lib in
/-- internal/stringslite.Cut (what strings.Cut calls): IT RETURNS 'Lib.cut s sep'; the world is as it was but for the count of draws. (LAID: no walk: one application.) -/
theorem Tryd.stringslite_Cut (s sep : ByteArray) (m : Int) (w : World) (hs : s.size < 4294967281) (hm : w.cell? ⟨0, 0, none⟩ = some (.int .i64 m)) :
    Calls Tryd.prog 91 #[.string s, .string sep] w fun e w' => e = .returned (.tuple #[.string ⟨(Lib.cut s.data.toList sep.data.toList).1.toArray⟩, .string ⟨(Lib.cut s.data.toList sep.data.toList).2.1.toArray⟩, .bool (Lib.cut s.data.toList sep.data.toList).2.2]) ∧ ∃ n, w' = w.drewN n := Any.stringslite_Cut Tryd.lays220 s sep m w hs hm
def Tryd.lays145_ren : Go.Shelf.Ren := ⟨fun | 145 => 67 | 220 => 91 | 219 => 101 | 217 => 108 | 225 => 109 | 224 => 110 | 267 => 111 | 266 => 122 | 314 => 123 | n => n, fun | 9 => 9 | 4 => 4 | 59 => 69 | 3 => 3 | 5 => 5 | 46 => 103 | 146 => 124 | 51 => 123 | n => n, fun | 1 => 0 | n => n⟩
theorem Tryd.lays145 : Go.Proofs.Lays.n145 Tryd.prog Tryd.lays145_ren := {
  mixed := by kernel_rfl
  f145 := Tryd.func67.trans (congrArg some (by kernel_rfl))
  f217 := Tryd.func108.trans (congrArg some (by kernel_rfl))
  f219 := Tryd.func101.trans (congrArg some (by kernel_rfl))
  f220 := Tryd.func91.trans (congrArg some (by kernel_rfl))
  f224 := Tryd.func110.trans (congrArg some (by kernel_rfl))
  f225 := Tryd.func109.trans (congrArg some (by kernel_rfl))
  f266 := Tryd.func122.trans (congrArg some (by kernel_rfl))
  f267 := Tryd.func111.trans (congrArg some (by kernel_rfl))
  f314 := Tryd.func123.trans (congrArg some (by kernel_rfl))
  t3 := Tryd.underlying3
  a3 := Tryd.isAgg3
  z3 := Tryd.sizeOf3
  v3 := Tryd.zeroValue3
  t4 := Tryd.underlying4
  a4 := Tryd.isAgg4
  z4 := Tryd.sizeOf4
  v4 := Tryd.zeroValue4
  t5 := Tryd.underlying5
  a5 := Tryd.isAgg5
  z5 := Tryd.sizeOf5
  v5 := Tryd.zeroValue5
  t9 := Tryd.underlying9
  a9 := Tryd.isAgg9
  z9 := Tryd.sizeOf9
  v9 := Tryd.zeroValue9
  t46 := Tryd.underlying103
  a46 := Tryd.isAgg103
  z46 := Tryd.sizeOf103
  v46 := Tryd.zeroValue103
  t51 := Tryd.underlying123
  a51 := Tryd.isAgg123
  z51 := Tryd.sizeOf123
  v51 := Tryd.zeroValue123
  t59 := Tryd.underlying69
  a59 := Tryd.isAgg69
  z59 := Tryd.sizeOf69
  v59 := Tryd.zeroValue69
  t146 := Tryd.underlying124
  a146 := Tryd.isAgg124
  z146 := Tryd.sizeOf124
  v146 := Tryd.zeroValue124
  g1 := by kernel_rfl }
open Go.RowKit Go.Lib in
/-- strings.Cut: "Cut slices s around the first instance of sep, returning the text before and after sep. The found result reports whether sep appears in s. If sep does not appear in s, cut returns s, "", false.": IT RETURNS 'Lib.cut s sep'; the world is as it was but for the count of draws. (LAID: no walk: one application.) -/
theorem Tryd.strings_Cut (s sep : ByteArray) (m : Int) (w : World) (hs : s.size < 4294967281) (hm : w.cell? ⟨0, 0, none⟩ = some (.int .i64 m)) :
    Calls Tryd.prog 67 #[.string s, .string sep] w fun e w' => e = .returned (.tuple #[.string ⟨(Lib.cut s.data.toList sep.data.toList).1.toArray⟩, .string ⟨(Lib.cut s.data.toList sep.data.toList).2.1.toArray⟩, .bool (Lib.cut s.data.toList sep.data.toList).2.2]) ∧ ∃ n, w' = w.drewN n := Any.strings_Cut Tryd.lays145 s sep m w hs hm
def Tryd.lays138_ren : Go.Shelf.Ren := ⟨fun | 138 => 63 | 195 => 87 | 218 => 88 | 143 => 89 | 219 => 101 | 217 => 108 | 225 => 109 | 224 => 110 | 267 => 111 | 266 => 122 | 314 => 123 | n => n, fun | 9 => 9 | 3 => 3 | 4 => 4 | 5 => 5 | 0 => 0 | 46 => 103 | 146 => 124 | 51 => 123 | n => n, fun | 1 => 0 | n => n⟩
theorem Tryd.lays138 : Go.Proofs.Lays.n138 Tryd.prog Tryd.lays138_ren := {
  mixed := by kernel_rfl
  f138 := Tryd.func63.trans (congrArg some (by kernel_rfl))
  f143 := Tryd.func89.trans (congrArg some (by kernel_rfl))
  f195 := Tryd.func87.trans (congrArg some (by kernel_rfl))
  f217 := Tryd.func108.trans (congrArg some (by kernel_rfl))
  f218 := Tryd.func88.trans (congrArg some (by kernel_rfl))
  f219 := Tryd.func101.trans (congrArg some (by kernel_rfl))
  f224 := Tryd.func110.trans (congrArg some (by kernel_rfl))
  f225 := Tryd.func109.trans (congrArg some (by kernel_rfl))
  f266 := Tryd.func122.trans (congrArg some (by kernel_rfl))
  f267 := Tryd.func111.trans (congrArg some (by kernel_rfl))
  f314 := Tryd.func123.trans (congrArg some (by kernel_rfl))
  t0 := Tryd.underlying0
  a0 := Tryd.isAgg0
  z0 := Tryd.sizeOf0
  v0 := Tryd.zeroValue0
  t3 := Tryd.underlying3
  a3 := Tryd.isAgg3
  z3 := Tryd.sizeOf3
  v3 := Tryd.zeroValue3
  t4 := Tryd.underlying4
  a4 := Tryd.isAgg4
  z4 := Tryd.sizeOf4
  v4 := Tryd.zeroValue4
  t5 := Tryd.underlying5
  a5 := Tryd.isAgg5
  z5 := Tryd.sizeOf5
  v5 := Tryd.zeroValue5
  t9 := Tryd.underlying9
  a9 := Tryd.isAgg9
  z9 := Tryd.sizeOf9
  v9 := Tryd.zeroValue9
  t46 := Tryd.underlying103
  a46 := Tryd.isAgg103
  z46 := Tryd.sizeOf103
  v46 := Tryd.zeroValue103
  t51 := Tryd.underlying123
  a51 := Tryd.isAgg123
  z51 := Tryd.sizeOf123
  v51 := Tryd.zeroValue123
  t146 := Tryd.underlying124
  a146 := Tryd.isAgg124
  z146 := Tryd.sizeOf124
  v146 := Tryd.zeroValue124
  g1 := by kernel_rfl }
open Go.RowKit Go.Lib in
/-- strings.Count AT A substr OF ONE BYTE ('hp'): "Count counts the number of non-overlapping instances of substr in s.": IT RETURNS 'Lib.countByte s (that byte)'; the world is as it was. ✋ NO CONTRACT HERE YET at an empty substr (utf8.RuneCountInString) or at a longer one (a loop over strings.Index). (LAID: no walk: one application.) -/
theorem Tryd.strings_Count_one (s : ByteArray) (c : UInt8) (w : World) :
    Calls Tryd.prog 63 #[.string s, .string ⟨#[c]⟩] w fun e w' => e = .returned (.int .i64 (Lib.countByte s.data.toList c)) ∧ w' = w := Any.strings_Count_one Tryd.lays138 s c w
open Go.RowKit Go.Lib in
/-- strings.Count AT A substr OF TWO BYTES OR MORE: "Count counts the number of non-overlapping instances of substr in s.": IT RETURNS 'Lib.count s substr'; the world is as it was. (LAID: no walk: one application.) -/
theorem Tryd.strings_Count (s sub : ByteArray) (m : Int) (w : World) (hs : s.size < 4294967281) (hm : w.cell? ⟨0, 0, none⟩ = some (.int .i64 m)) (h2 : 2 ≤ sub.size) :
    Calls Tryd.prog 63 #[.string s, .string sub] w fun e w' => e = .returned (.int .i64 (Lib.countB s sub)) ∧ w' = w := Any.strings_Count Tryd.lays138 s sub m w hs hm h2
def Tryd.laysM219_ren : Go.Shelf.Ren := ⟨fun | 219 => 101 | 217 => 108 | 225 => 109 | 224 => 110 | 267 => 111 | 266 => 122 | 314 => 123 | n => n, fun | 9 => 9 | 3 => 3 | 4 => 4 | 5 => 5 | 46 => 103 | 146 => 124 | 51 => 123 | n => n, fun | 1 => 0 | n => n⟩
theorem Tryd.laysM219 : Go.Proofs.LaysM.n219 Tryd.prog Tryd.laysM219_ren := {
  mixed := by kernel_rfl
  f217 := Tryd.func108.trans (congrArg some (by kernel_rfl))
  f219 := Tryd.func101.trans (congrArg some (by kernel_rfl))
  f224 := Tryd.func110.trans (congrArg some (by kernel_rfl))
  f225 := Tryd.func109.trans (congrArg some (by kernel_rfl))
  f266 := Tryd.func122.trans (congrArg some (by kernel_rfl))
  f267 := Tryd.func111.trans (congrArg some (by kernel_rfl))
  f314 := Tryd.func123.trans (congrArg some (by kernel_rfl))
  t3 := Tryd.underlying3
  a3 := Tryd.isAgg3
  z3 := Tryd.sizeOf3
  v3 := Tryd.zeroValue3
  t4 := Tryd.underlying4
  a4 := Tryd.isAgg4
  z4 := Tryd.sizeOf4
  v4 := Tryd.zeroValue4
  t5 := Tryd.underlying5
  a5 := Tryd.isAgg5
  z5 := Tryd.sizeOf5
  v5 := Tryd.zeroValue5
  t9 := Tryd.underlying9
  a9 := Tryd.isAgg9
  z9 := Tryd.sizeOf9
  v9 := Tryd.zeroValue9
  t46 := Tryd.underlying103
  a46 := Tryd.isAgg103
  z46 := Tryd.sizeOf103
  v46 := Tryd.zeroValue103
  t51 := Tryd.underlying123
  a51 := Tryd.isAgg123
  z51 := Tryd.sizeOf123
  v51 := Tryd.zeroValue123
  t146 := Tryd.underlying124
  a146 := Tryd.isAgg124
  z146 := Tryd.sizeOf124
  v146 := Tryd.zeroValue124
  g1 := by kernel_rfl
  i3 := by kernel_rfl
  i4 := by kernel_rfl
  i5 := by kernel_rfl
  i9 := by kernel_rfl
  i46 := by kernel_rfl
  i51 := by kernel_rfl
  i146 := by kernel_rfl
  m1 := by kernel_rfl
  s1_3 := fun w h => Go.Proofs.cell_of_shapedOpen_int (zero := #[.int .i64 0]) (t := 3) h (of_decide_eq_true (by kernel_rfl)) (by kernel_rfl) rfl (by kernel_rfl) (by kernel_rfl) Tryd.underlying3 }
open Go.RowKit Go.Lib in
theorem Tryd.stringslite_Index_shaped (s sub : ByteArray) (w : World) (h : w.ShapedOpen Tryd.prog) (hs : s.size < 4294967281) :
    Calls Tryd.prog 101 #[.string s, .string sub] w fun e w' => e = .returned (.int .i64 (Lib.index s.data.toList sub.data.toList)) ∧ w' = w := Any.stringslite_Index_shaped Tryd.laysM219 s sub w h hs
def Tryd.laysM143_ren : Go.Shelf.Ren := ⟨fun | 143 => 89 | 219 => 101 | 217 => 108 | 225 => 109 | 224 => 110 | 267 => 111 | 266 => 122 | 314 => 123 | n => n, fun | 9 => 9 | 3 => 3 | 4 => 4 | 5 => 5 | 46 => 103 | 146 => 124 | 51 => 123 | n => n, fun | 1 => 0 | n => n⟩
theorem Tryd.laysM143 : Go.Proofs.LaysM.n143 Tryd.prog Tryd.laysM143_ren := {
  mixed := by kernel_rfl
  f143 := Tryd.func89.trans (congrArg some (by kernel_rfl))
  f217 := Tryd.func108.trans (congrArg some (by kernel_rfl))
  f219 := Tryd.func101.trans (congrArg some (by kernel_rfl))
  f224 := Tryd.func110.trans (congrArg some (by kernel_rfl))
  f225 := Tryd.func109.trans (congrArg some (by kernel_rfl))
  f266 := Tryd.func122.trans (congrArg some (by kernel_rfl))
  f267 := Tryd.func111.trans (congrArg some (by kernel_rfl))
  f314 := Tryd.func123.trans (congrArg some (by kernel_rfl))
  t3 := Tryd.underlying3
  a3 := Tryd.isAgg3
  z3 := Tryd.sizeOf3
  v3 := Tryd.zeroValue3
  t4 := Tryd.underlying4
  a4 := Tryd.isAgg4
  z4 := Tryd.sizeOf4
  v4 := Tryd.zeroValue4
  t5 := Tryd.underlying5
  a5 := Tryd.isAgg5
  z5 := Tryd.sizeOf5
  v5 := Tryd.zeroValue5
  t9 := Tryd.underlying9
  a9 := Tryd.isAgg9
  z9 := Tryd.sizeOf9
  v9 := Tryd.zeroValue9
  t46 := Tryd.underlying103
  a46 := Tryd.isAgg103
  z46 := Tryd.sizeOf103
  v46 := Tryd.zeroValue103
  t51 := Tryd.underlying123
  a51 := Tryd.isAgg123
  z51 := Tryd.sizeOf123
  v51 := Tryd.zeroValue123
  t146 := Tryd.underlying124
  a146 := Tryd.isAgg124
  z146 := Tryd.sizeOf124
  v146 := Tryd.zeroValue124
  g1 := by kernel_rfl
  i3 := by kernel_rfl
  i4 := by kernel_rfl
  i5 := by kernel_rfl
  i9 := by kernel_rfl
  i46 := by kernel_rfl
  i51 := by kernel_rfl
  i146 := by kernel_rfl
  m1 := by kernel_rfl
  s1_3 := fun w h => Go.Proofs.cell_of_shapedOpen_int (zero := #[.int .i64 0]) (t := 3) h (of_decide_eq_true (by kernel_rfl)) (by kernel_rfl) rfl (by kernel_rfl) (by kernel_rfl) Tryd.underlying3 }
open Go.RowKit Go.Lib in
theorem Tryd.strings_Index_shaped (s sub : ByteArray) (w : World) (h : w.ShapedOpen Tryd.prog) (hs : s.size < 4294967281) :
    Calls Tryd.prog 89 #[.string s, .string sub] w fun e w' => e = .returned (.int .i64 (Lib.index s.data.toList sub.data.toList)) ∧ w' = w := Any.strings_Index_shaped Tryd.laysM143 s sub w h hs
def Tryd.laysM220_ren : Go.Shelf.Ren := ⟨fun | 220 => 91 | 219 => 101 | 217 => 108 | 225 => 109 | 224 => 110 | 267 => 111 | 266 => 122 | 314 => 123 | n => n, fun | 9 => 9 | 4 => 4 | 3 => 3 | 5 => 5 | 46 => 103 | 146 => 124 | 51 => 123 | n => n, fun | 1 => 0 | n => n⟩
theorem Tryd.laysM220 : Go.Proofs.LaysM.n220 Tryd.prog Tryd.laysM220_ren := {
  mixed := by kernel_rfl
  f217 := Tryd.func108.trans (congrArg some (by kernel_rfl))
  f219 := Tryd.func101.trans (congrArg some (by kernel_rfl))
  f220 := Tryd.func91.trans (congrArg some (by kernel_rfl))
  f224 := Tryd.func110.trans (congrArg some (by kernel_rfl))
  f225 := Tryd.func109.trans (congrArg some (by kernel_rfl))
  f266 := Tryd.func122.trans (congrArg some (by kernel_rfl))
  f267 := Tryd.func111.trans (congrArg some (by kernel_rfl))
  f314 := Tryd.func123.trans (congrArg some (by kernel_rfl))
  t3 := Tryd.underlying3
  a3 := Tryd.isAgg3
  z3 := Tryd.sizeOf3
  v3 := Tryd.zeroValue3
  t4 := Tryd.underlying4
  a4 := Tryd.isAgg4
  z4 := Tryd.sizeOf4
  v4 := Tryd.zeroValue4
  t5 := Tryd.underlying5
  a5 := Tryd.isAgg5
  z5 := Tryd.sizeOf5
  v5 := Tryd.zeroValue5
  t9 := Tryd.underlying9
  a9 := Tryd.isAgg9
  z9 := Tryd.sizeOf9
  v9 := Tryd.zeroValue9
  t46 := Tryd.underlying103
  a46 := Tryd.isAgg103
  z46 := Tryd.sizeOf103
  v46 := Tryd.zeroValue103
  t51 := Tryd.underlying123
  a51 := Tryd.isAgg123
  z51 := Tryd.sizeOf123
  v51 := Tryd.zeroValue123
  t146 := Tryd.underlying124
  a146 := Tryd.isAgg124
  z146 := Tryd.sizeOf124
  v146 := Tryd.zeroValue124
  g1 := by kernel_rfl
  i3 := by kernel_rfl
  i4 := by kernel_rfl
  i5 := by kernel_rfl
  i9 := by kernel_rfl
  i46 := by kernel_rfl
  i51 := by kernel_rfl
  i146 := by kernel_rfl
  m1 := by kernel_rfl
  s1_3 := fun w h => Go.Proofs.cell_of_shapedOpen_int (zero := #[.int .i64 0]) (t := 3) h (of_decide_eq_true (by kernel_rfl)) (by kernel_rfl) rfl (by kernel_rfl) (by kernel_rfl) Tryd.underlying3 }
open Go.RowKit Go.Lib in
theorem Tryd.stringslite_Cut_shaped (s sep : ByteArray) (w : World) (h : w.ShapedOpen Tryd.prog) (hs : s.size < 4294967281) :
    Calls Tryd.prog 91 #[.string s, .string sep] w fun e w' => e = .returned (.tuple #[.string ⟨(Lib.cut s.data.toList sep.data.toList).1.toArray⟩, .string ⟨(Lib.cut s.data.toList sep.data.toList).2.1.toArray⟩, .bool (Lib.cut s.data.toList sep.data.toList).2.2]) ∧ ∃ n, w' = w.drewN n := Any.stringslite_Cut_shaped Tryd.laysM220 s sep w h hs
def Tryd.laysM145_ren : Go.Shelf.Ren := ⟨fun | 145 => 67 | 220 => 91 | 219 => 101 | 217 => 108 | 225 => 109 | 224 => 110 | 267 => 111 | 266 => 122 | 314 => 123 | n => n, fun | 9 => 9 | 4 => 4 | 59 => 69 | 3 => 3 | 5 => 5 | 46 => 103 | 146 => 124 | 51 => 123 | n => n, fun | 1 => 0 | n => n⟩
theorem Tryd.laysM145 : Go.Proofs.LaysM.n145 Tryd.prog Tryd.laysM145_ren := {
  mixed := by kernel_rfl
  f145 := Tryd.func67.trans (congrArg some (by kernel_rfl))
  f217 := Tryd.func108.trans (congrArg some (by kernel_rfl))
  f219 := Tryd.func101.trans (congrArg some (by kernel_rfl))
  f220 := Tryd.func91.trans (congrArg some (by kernel_rfl))
  f224 := Tryd.func110.trans (congrArg some (by kernel_rfl))
  f225 := Tryd.func109.trans (congrArg some (by kernel_rfl))
  f266 := Tryd.func122.trans (congrArg some (by kernel_rfl))
  f267 := Tryd.func111.trans (congrArg some (by kernel_rfl))
  f314 := Tryd.func123.trans (congrArg some (by kernel_rfl))
  t3 := Tryd.underlying3
  a3 := Tryd.isAgg3
  z3 := Tryd.sizeOf3
  v3 := Tryd.zeroValue3
  t4 := Tryd.underlying4
  a4 := Tryd.isAgg4
  z4 := Tryd.sizeOf4
  v4 := Tryd.zeroValue4
  t5 := Tryd.underlying5
  a5 := Tryd.isAgg5
  z5 := Tryd.sizeOf5
  v5 := Tryd.zeroValue5
  t9 := Tryd.underlying9
  a9 := Tryd.isAgg9
  z9 := Tryd.sizeOf9
  v9 := Tryd.zeroValue9
  t46 := Tryd.underlying103
  a46 := Tryd.isAgg103
  z46 := Tryd.sizeOf103
  v46 := Tryd.zeroValue103
  t51 := Tryd.underlying123
  a51 := Tryd.isAgg123
  z51 := Tryd.sizeOf123
  v51 := Tryd.zeroValue123
  t59 := Tryd.underlying69
  a59 := Tryd.isAgg69
  z59 := Tryd.sizeOf69
  v59 := Tryd.zeroValue69
  t146 := Tryd.underlying124
  a146 := Tryd.isAgg124
  z146 := Tryd.sizeOf124
  v146 := Tryd.zeroValue124
  g1 := by kernel_rfl
  i3 := by kernel_rfl
  i4 := by kernel_rfl
  i5 := by kernel_rfl
  i9 := by kernel_rfl
  i46 := by kernel_rfl
  i51 := by kernel_rfl
  i59 := by kernel_rfl
  i146 := by kernel_rfl
  m1 := by kernel_rfl
  s1_3 := fun w h => Go.Proofs.cell_of_shapedOpen_int (zero := #[.int .i64 0]) (t := 3) h (of_decide_eq_true (by kernel_rfl)) (by kernel_rfl) rfl (by kernel_rfl) (by kernel_rfl) Tryd.underlying3 }
open Go.RowKit Go.Lib in
theorem Tryd.strings_Cut_shaped (s sep : ByteArray) (w : World) (h : w.ShapedOpen Tryd.prog) (hs : s.size < 4294967281) :
    Calls Tryd.prog 67 #[.string s, .string sep] w fun e w' => e = .returned (.tuple #[.string ⟨(Lib.cut s.data.toList sep.data.toList).1.toArray⟩, .string ⟨(Lib.cut s.data.toList sep.data.toList).2.1.toArray⟩, .bool (Lib.cut s.data.toList sep.data.toList).2.2]) ∧ ∃ n, w' = w.drewN n := Any.strings_Cut_shaped Tryd.laysM145 s sep w h hs
def Tryd.laysM138_ren : Go.Shelf.Ren := ⟨fun | 138 => 63 | 195 => 87 | 218 => 88 | 143 => 89 | 219 => 101 | 217 => 108 | 225 => 109 | 224 => 110 | 267 => 111 | 266 => 122 | 314 => 123 | n => n, fun | 9 => 9 | 3 => 3 | 4 => 4 | 5 => 5 | 0 => 0 | 46 => 103 | 146 => 124 | 51 => 123 | n => n, fun | 1 => 0 | n => n⟩
theorem Tryd.laysM138 : Go.Proofs.LaysM.n138 Tryd.prog Tryd.laysM138_ren := {
  mixed := by kernel_rfl
  f138 := Tryd.func63.trans (congrArg some (by kernel_rfl))
  f143 := Tryd.func89.trans (congrArg some (by kernel_rfl))
  f195 := Tryd.func87.trans (congrArg some (by kernel_rfl))
  f217 := Tryd.func108.trans (congrArg some (by kernel_rfl))
  f218 := Tryd.func88.trans (congrArg some (by kernel_rfl))
  f219 := Tryd.func101.trans (congrArg some (by kernel_rfl))
  f224 := Tryd.func110.trans (congrArg some (by kernel_rfl))
  f225 := Tryd.func109.trans (congrArg some (by kernel_rfl))
  f266 := Tryd.func122.trans (congrArg some (by kernel_rfl))
  f267 := Tryd.func111.trans (congrArg some (by kernel_rfl))
  f314 := Tryd.func123.trans (congrArg some (by kernel_rfl))
  t0 := Tryd.underlying0
  a0 := Tryd.isAgg0
  z0 := Tryd.sizeOf0
  v0 := Tryd.zeroValue0
  t3 := Tryd.underlying3
  a3 := Tryd.isAgg3
  z3 := Tryd.sizeOf3
  v3 := Tryd.zeroValue3
  t4 := Tryd.underlying4
  a4 := Tryd.isAgg4
  z4 := Tryd.sizeOf4
  v4 := Tryd.zeroValue4
  t5 := Tryd.underlying5
  a5 := Tryd.isAgg5
  z5 := Tryd.sizeOf5
  v5 := Tryd.zeroValue5
  t9 := Tryd.underlying9
  a9 := Tryd.isAgg9
  z9 := Tryd.sizeOf9
  v9 := Tryd.zeroValue9
  t46 := Tryd.underlying103
  a46 := Tryd.isAgg103
  z46 := Tryd.sizeOf103
  v46 := Tryd.zeroValue103
  t51 := Tryd.underlying123
  a51 := Tryd.isAgg123
  z51 := Tryd.sizeOf123
  v51 := Tryd.zeroValue123
  t146 := Tryd.underlying124
  a146 := Tryd.isAgg124
  z146 := Tryd.sizeOf124
  v146 := Tryd.zeroValue124
  g1 := by kernel_rfl
  i0 := by kernel_rfl
  i3 := by kernel_rfl
  i4 := by kernel_rfl
  i5 := by kernel_rfl
  i9 := by kernel_rfl
  i46 := by kernel_rfl
  i51 := by kernel_rfl
  i146 := by kernel_rfl
  m1 := by kernel_rfl
  s1_3 := fun w h => Go.Proofs.cell_of_shapedOpen_int (zero := #[.int .i64 0]) (t := 3) h (of_decide_eq_true (by kernel_rfl)) (by kernel_rfl) rfl (by kernel_rfl) (by kernel_rfl) Tryd.underlying3 }
open Go.RowKit Go.Lib in
theorem Tryd.strings_Count_shaped (s sub : ByteArray) (w : World) (h : w.ShapedOpen Tryd.prog) (hs : s.size < 4294967281) (h2 : 2 ≤ sub.size) :
    Calls Tryd.prog 63 #[.string s, .string sub] w fun e w' => e = .returned (.int .i64 (Lib.countB s sub)) ∧ w' = w := Any.strings_Count_shaped Tryd.laysM138 s sub w h hs h2
open Go.RowKit Go.Lib in
/-- strings.Count at whatever sep that is not empty: the two roads under one statement. (LAID: no walk: one application.) -/
theorem Tryd.strings_Count_any (s sep : ByteArray) (m : Int) (w : World) (hs : s.size < 4294967281) (hm : w.cell? ⟨0, 0, none⟩ = some (.int .i64 m)) (h1 : 1 ≤ sep.size) :
    Calls Tryd.prog 63 #[.string s, .string sep] w fun e w' => e = .returned (.int .i64 (Lib.countB s sep)) ∧ w' = w := Any.strings_Count_any Tryd.lays138 s sep m w hs hm h1
def Tryd.lays221_ren : Go.Shelf.Ren := ⟨fun | 221 => 90 | 268 => 102 | 138 => 63 | 143 => 89 | 195 => 87 | 197 => 112 | 218 => 88 | 219 => 101 | 260 => 124 | 217 => 108 | 225 => 109 | 224 => 110 | 267 => 111 | 266 => 122 | 314 => 123 | n => n, fun | 9 => 9 | 3 => 3 | 31 => 58 | 4 => 4 | 0 => 0 | 105 => 109 | 21 => 21 | 5 => 5 | 46 => 103 | 119 => 137 | 139 => 140 | 138 => 139 | 146 => 124 | 51 => 123 | n => n, fun | 1 => 0 | 3 => 4 | 4 => 5 | n => n⟩
theorem Tryd.lays221 : Go.Proofs.Lays.n221 Tryd.prog Tryd.lays221_ren := {
  mixed := by kernel_rfl
  f138 := Tryd.func63.trans (congrArg some (by kernel_rfl))
  f143 := Tryd.func89.trans (congrArg some (by kernel_rfl))
  f195 := Tryd.func87.trans (congrArg some (by kernel_rfl))
  f197 := Tryd.func112.trans (congrArg some (by kernel_rfl))
  f217 := Tryd.func108.trans (congrArg some (by kernel_rfl))
  f218 := Tryd.func88.trans (congrArg some (by kernel_rfl))
  f219 := Tryd.func101.trans (congrArg some (by kernel_rfl))
  f221 := Tryd.func90.trans (congrArg some (by kernel_rfl))
  f224 := Tryd.func110.trans (congrArg some (by kernel_rfl))
  f225 := Tryd.func109.trans (congrArg some (by kernel_rfl))
  f260 := Tryd.func124.trans (congrArg some (by kernel_rfl))
  f266 := Tryd.func122.trans (congrArg some (by kernel_rfl))
  f267 := Tryd.func111.trans (congrArg some (by kernel_rfl))
  f268 := Tryd.func102.trans (congrArg some (by kernel_rfl))
  f314 := Tryd.func123.trans (congrArg some (by kernel_rfl))
  t0 := Tryd.underlying0
  a0 := Tryd.isAgg0
  z0 := Tryd.sizeOf0
  v0 := Tryd.zeroValue0
  t3 := Tryd.underlying3
  a3 := Tryd.isAgg3
  z3 := Tryd.sizeOf3
  v3 := Tryd.zeroValue3
  t4 := Tryd.underlying4
  a4 := Tryd.isAgg4
  z4 := Tryd.sizeOf4
  v4 := Tryd.zeroValue4
  t5 := Tryd.underlying5
  a5 := Tryd.isAgg5
  z5 := Tryd.sizeOf5
  v5 := Tryd.zeroValue5
  t9 := Tryd.underlying9
  a9 := Tryd.isAgg9
  z9 := Tryd.sizeOf9
  v9 := Tryd.zeroValue9
  t21 := Tryd.underlying21
  a21 := Tryd.isAgg21
  z21 := Tryd.sizeOf21
  v21 := Tryd.zeroValue21
  t31 := Tryd.underlying58
  a31 := Tryd.isAgg58
  z31 := Tryd.sizeOf58
  v31 := Tryd.zeroValue58
  t46 := Tryd.underlying103
  a46 := Tryd.isAgg103
  z46 := Tryd.sizeOf103
  v46 := Tryd.zeroValue103
  t51 := Tryd.underlying123
  a51 := Tryd.isAgg123
  z51 := Tryd.sizeOf123
  v51 := Tryd.zeroValue123
  t105 := Tryd.underlying109
  a105 := Tryd.isAgg109
  z105 := Tryd.sizeOf109
  v105 := Tryd.zeroValue109
  t119 := Tryd.underlying137
  a119 := Tryd.isAgg137
  z119 := Tryd.sizeOf137
  t138 := Tryd.underlying139
  a138 := Tryd.isAgg139
  z138 := Tryd.sizeOf139
  v138 := Tryd.zeroValue139
  t139 := Tryd.underlying140
  a139 := Tryd.isAgg140
  z139 := Tryd.sizeOf140
  v139 := Tryd.zeroValue140
  t146 := Tryd.underlying124
  a146 := Tryd.isAgg124
  z146 := Tryd.sizeOf124
  v146 := Tryd.zeroValue124
  g1 := by kernel_rfl
  g3 := by kernel_rfl
  g4 := by kernel_rfl }
open Go.RowKit Go.Lib in
theorem Tryd.strings_genSplit (s sep : ByteArray) (sv : Nat) (n : Int) (N : Nat) (m : Int) (w : World) (hs : s.size < 4294967281) (hm : w.cell? ⟨0, 0, none⟩ = some (.int .i64 m)) (h1 : 1 ≤ sep.size) (hsv : sv ≤ sep.size) (hn0 : n ≠ 0) (hn63 : n ≤ 9223372036854775807) (hN : (N : Int) = min (if n < 0 then (Lib.countB s sep : Int) + 1 else n) ((s.size : Int) + 1)) :
    Calls Tryd.prog 90 #[.string s, .string sep, .int .i64 sv, .int .i64 n] w fun e w' =>
      e = .returned (.slice (some ⟨w.heap.size, 0, none⟩) (Lib.splitB sep sv (N - 1) s).length N) ∧ w' = w.alloc (.cells (Lib.cellsOf (Lib.splitB sep sv (N - 1) s) N) 9) := Any.strings_genSplit Tryd.lays221 (by kernel_rfl) s sep sv n N m w hs hm h1 hsv hn0 hn63 hN
def Tryd.lays146_ren : Go.Shelf.Ren := ⟨fun | 146 => 64 | 221 => 90 | 268 => 102 | 138 => 63 | 143 => 89 | 195 => 87 | 197 => 112 | 218 => 88 | 219 => 101 | 260 => 124 | 217 => 108 | 225 => 109 | 224 => 110 | 267 => 111 | 266 => 122 | 314 => 123 | n => n, fun | 9 => 9 | 31 => 58 | 3 => 3 | 4 => 4 | 0 => 0 | 105 => 109 | 21 => 21 | 5 => 5 | 46 => 103 | 119 => 137 | 139 => 140 | 138 => 139 | 146 => 124 | 51 => 123 | n => n, fun | 1 => 0 | 3 => 4 | 4 => 5 | n => n⟩
theorem Tryd.lays146 : Go.Proofs.Lays.n146 Tryd.prog Tryd.lays146_ren := {
  mixed := by kernel_rfl
  f138 := Tryd.func63.trans (congrArg some (by kernel_rfl))
  f143 := Tryd.func89.trans (congrArg some (by kernel_rfl))
  f146 := Tryd.func64.trans (congrArg some (by kernel_rfl))
  f195 := Tryd.func87.trans (congrArg some (by kernel_rfl))
  f197 := Tryd.func112.trans (congrArg some (by kernel_rfl))
  f217 := Tryd.func108.trans (congrArg some (by kernel_rfl))
  f218 := Tryd.func88.trans (congrArg some (by kernel_rfl))
  f219 := Tryd.func101.trans (congrArg some (by kernel_rfl))
  f221 := Tryd.func90.trans (congrArg some (by kernel_rfl))
  f224 := Tryd.func110.trans (congrArg some (by kernel_rfl))
  f225 := Tryd.func109.trans (congrArg some (by kernel_rfl))
  f260 := Tryd.func124.trans (congrArg some (by kernel_rfl))
  f266 := Tryd.func122.trans (congrArg some (by kernel_rfl))
  f267 := Tryd.func111.trans (congrArg some (by kernel_rfl))
  f268 := Tryd.func102.trans (congrArg some (by kernel_rfl))
  f314 := Tryd.func123.trans (congrArg some (by kernel_rfl))
  t0 := Tryd.underlying0
  a0 := Tryd.isAgg0
  z0 := Tryd.sizeOf0
  v0 := Tryd.zeroValue0
  t3 := Tryd.underlying3
  a3 := Tryd.isAgg3
  z3 := Tryd.sizeOf3
  v3 := Tryd.zeroValue3
  t4 := Tryd.underlying4
  a4 := Tryd.isAgg4
  z4 := Tryd.sizeOf4
  v4 := Tryd.zeroValue4
  t5 := Tryd.underlying5
  a5 := Tryd.isAgg5
  z5 := Tryd.sizeOf5
  v5 := Tryd.zeroValue5
  t9 := Tryd.underlying9
  a9 := Tryd.isAgg9
  z9 := Tryd.sizeOf9
  v9 := Tryd.zeroValue9
  t21 := Tryd.underlying21
  a21 := Tryd.isAgg21
  z21 := Tryd.sizeOf21
  v21 := Tryd.zeroValue21
  t31 := Tryd.underlying58
  a31 := Tryd.isAgg58
  z31 := Tryd.sizeOf58
  v31 := Tryd.zeroValue58
  t46 := Tryd.underlying103
  a46 := Tryd.isAgg103
  z46 := Tryd.sizeOf103
  v46 := Tryd.zeroValue103
  t51 := Tryd.underlying123
  a51 := Tryd.isAgg123
  z51 := Tryd.sizeOf123
  v51 := Tryd.zeroValue123
  t105 := Tryd.underlying109
  a105 := Tryd.isAgg109
  z105 := Tryd.sizeOf109
  v105 := Tryd.zeroValue109
  t119 := Tryd.underlying137
  a119 := Tryd.isAgg137
  z119 := Tryd.sizeOf137
  t138 := Tryd.underlying139
  a138 := Tryd.isAgg139
  z138 := Tryd.sizeOf139
  v138 := Tryd.zeroValue139
  t139 := Tryd.underlying140
  a139 := Tryd.isAgg140
  z139 := Tryd.sizeOf140
  v139 := Tryd.zeroValue140
  t146 := Tryd.underlying124
  a146 := Tryd.isAgg124
  z146 := Tryd.sizeOf124
  v146 := Tryd.zeroValue124
  g1 := by kernel_rfl
  g3 := by kernel_rfl
  g4 := by kernel_rfl }
open Go.RowKit Go.Lib in
/-- strings.Split. (LAID: no walk: one application.) -/
theorem Tryd.strings_Split (s sep : ByteArray) (m : Int) (w : World) (hs : s.size < 4294967281) (hm : w.cell? ⟨0, 0, none⟩ = some (.int .i64 m)) (h1 : 1 ≤ sep.size) :
    Calls Tryd.prog 64 #[.string s, .string sep] w fun e w' =>
      e = .returned (.slice (some ⟨w.heap.size, 0, none⟩) (Lib.countB s sep + 1) (Lib.countB s sep + 1)) ∧ w' = w.alloc (.cells ((Lib.splitB sep 0 (Lib.countB s sep) s).map Value.string).toArray 9) := Any.strings_Split Tryd.lays146 (by kernel_rfl) s sep m w hs hm h1
def Tryd.laysM146_ren : Go.Shelf.Ren := ⟨fun | 146 => 64 | 221 => 90 | 268 => 102 | 138 => 63 | 143 => 89 | 195 => 87 | 197 => 112 | 218 => 88 | 219 => 101 | 260 => 124 | 217 => 108 | 225 => 109 | 224 => 110 | 267 => 111 | 266 => 122 | 314 => 123 | n => n, fun | 9 => 9 | 31 => 58 | 3 => 3 | 4 => 4 | 0 => 0 | 105 => 109 | 21 => 21 | 5 => 5 | 46 => 103 | 119 => 137 | 139 => 140 | 138 => 139 | 146 => 124 | 51 => 123 | n => n, fun | 1 => 0 | 3 => 4 | 4 => 5 | n => n⟩
theorem Tryd.laysM146 : Go.Proofs.LaysM.n146 Tryd.prog Tryd.laysM146_ren := {
  mixed := by kernel_rfl
  f138 := Tryd.func63.trans (congrArg some (by kernel_rfl))
  f143 := Tryd.func89.trans (congrArg some (by kernel_rfl))
  f146 := Tryd.func64.trans (congrArg some (by kernel_rfl))
  f195 := Tryd.func87.trans (congrArg some (by kernel_rfl))
  f197 := Tryd.func112.trans (congrArg some (by kernel_rfl))
  f217 := Tryd.func108.trans (congrArg some (by kernel_rfl))
  f218 := Tryd.func88.trans (congrArg some (by kernel_rfl))
  f219 := Tryd.func101.trans (congrArg some (by kernel_rfl))
  f221 := Tryd.func90.trans (congrArg some (by kernel_rfl))
  f224 := Tryd.func110.trans (congrArg some (by kernel_rfl))
  f225 := Tryd.func109.trans (congrArg some (by kernel_rfl))
  f260 := Tryd.func124.trans (congrArg some (by kernel_rfl))
  f266 := Tryd.func122.trans (congrArg some (by kernel_rfl))
  f267 := Tryd.func111.trans (congrArg some (by kernel_rfl))
  f268 := Tryd.func102.trans (congrArg some (by kernel_rfl))
  f314 := Tryd.func123.trans (congrArg some (by kernel_rfl))
  t0 := Tryd.underlying0
  a0 := Tryd.isAgg0
  z0 := Tryd.sizeOf0
  v0 := Tryd.zeroValue0
  t3 := Tryd.underlying3
  a3 := Tryd.isAgg3
  z3 := Tryd.sizeOf3
  v3 := Tryd.zeroValue3
  t4 := Tryd.underlying4
  a4 := Tryd.isAgg4
  z4 := Tryd.sizeOf4
  v4 := Tryd.zeroValue4
  t5 := Tryd.underlying5
  a5 := Tryd.isAgg5
  z5 := Tryd.sizeOf5
  v5 := Tryd.zeroValue5
  t9 := Tryd.underlying9
  a9 := Tryd.isAgg9
  z9 := Tryd.sizeOf9
  v9 := Tryd.zeroValue9
  t21 := Tryd.underlying21
  a21 := Tryd.isAgg21
  z21 := Tryd.sizeOf21
  v21 := Tryd.zeroValue21
  t31 := Tryd.underlying58
  a31 := Tryd.isAgg58
  z31 := Tryd.sizeOf58
  v31 := Tryd.zeroValue58
  t46 := Tryd.underlying103
  a46 := Tryd.isAgg103
  z46 := Tryd.sizeOf103
  v46 := Tryd.zeroValue103
  t51 := Tryd.underlying123
  a51 := Tryd.isAgg123
  z51 := Tryd.sizeOf123
  v51 := Tryd.zeroValue123
  t105 := Tryd.underlying109
  a105 := Tryd.isAgg109
  z105 := Tryd.sizeOf109
  v105 := Tryd.zeroValue109
  t119 := Tryd.underlying137
  a119 := Tryd.isAgg137
  z119 := Tryd.sizeOf137
  t138 := Tryd.underlying139
  a138 := Tryd.isAgg139
  z138 := Tryd.sizeOf139
  v138 := Tryd.zeroValue139
  t139 := Tryd.underlying140
  a139 := Tryd.isAgg140
  z139 := Tryd.sizeOf140
  v139 := Tryd.zeroValue140
  t146 := Tryd.underlying124
  a146 := Tryd.isAgg124
  z146 := Tryd.sizeOf124
  v146 := Tryd.zeroValue124
  g1 := by kernel_rfl
  g3 := by kernel_rfl
  g4 := by kernel_rfl
  i0 := by kernel_rfl
  i3 := by kernel_rfl
  i4 := by kernel_rfl
  i5 := by kernel_rfl
  i9 := by kernel_rfl
  i21 := by kernel_rfl
  i31 := by kernel_rfl
  i46 := by kernel_rfl
  i51 := by kernel_rfl
  i105 := by kernel_rfl
  i138 := by kernel_rfl
  i139 := by kernel_rfl
  i146 := by kernel_rfl
  m1 := by kernel_rfl
  s1_3 := fun w h => Go.Proofs.cell_of_shapedOpen_int (zero := #[.int .i64 0]) (t := 3) h (of_decide_eq_true (by kernel_rfl)) (by kernel_rfl) rfl (by kernel_rfl) (by kernel_rfl) Tryd.underlying3
  m3 := by kernel_rfl
  m4 := by kernel_rfl }
open Go.RowKit Go.Lib in
/-- strings.Split, sep not empty. (LAID: no walk: one application.) -/
theorem Tryd.strings_Split_shaped (s sep : ByteArray) (w : World) (h : w.ShapedOpen Tryd.prog) (hs : s.size < 4294967281) (h1 : 1 ≤ sep.size) :
    Calls Tryd.prog 64 #[.string s, .string sep] w fun e w' =>
      e = .returned (.slice (some ⟨w.heap.size, 0, none⟩) (Lib.countB s sep + 1) (Lib.countB s sep + 1)) ∧ w' = w.alloc (.cells ((Lib.splitB sep 0 (Lib.countB s sep) s).map Value.string).toArray 9) := Any.strings_Split_shaped Tryd.laysM146 s sep w h hs h1
end Go.Proofs
