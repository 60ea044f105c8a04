/-
  Results in memory of their own, in one form; calls that give such back; calls that write what they are handed.
-/
import Derived.Test.YtehimkdkflnkbaaShK
namespace Go.Sh
set_option linter.unusedSimpArgs false
set_option linter.unusedVariables false
open Go Go.RowKit
variable {P : Program}

def isVal : SV → Bool
  | .val _ => true
  | _ => false
theorem isVal_of {s : SV} (h : isVal s = true) : ∃ v, s = .val v := by cases s <;> simp_all [isVal]

/-- The result is a slice of n elements of z cells each, in memory of its own: scalars. -/
def FlatRes (n z : Nat) (cs : List SV) (r : SV) (H : Heap) : Prop :=
  ∃ b off cap ex blk, r = .own b off n cap z ex ∧ H.map b = some blk ∧ (blk.cells.drop off).take (n * z) = cs ∧ off + n * z ≤ blk.cells.length ∧ cs.all isVal = true
def OneRes (n z : Nat) (cs : List SV) (r : SV) (H : Heap) : Prop := r = .own 0 0 n n z false ∧ H = Heap.one ⟨cs, false⟩

theorem FlatRes.length {n z : Nat} {cs : List SV} {r : SV} {H : Heap} (h : FlatRes n z cs r H) : cs.length = n * z := by
  obtain ⟨b, off, cap, ex, blk, _, _, h3, h4, _⟩ := h
  rw [← h3]; simp; omega

theorem one_rel {n z : Nat} {cs : List SV} {j : JMap} {H : Heap} {w : World} {r : SV} {v : Value} (h : FlatRes n z cs r H) (hr : Rel j H w) (hv : VRel (OwnR j H) w j r v) :
    ∃ j', Rel j' (Heap.one ⟨cs, false⟩) w ∧ VRel (OwnR j' (Heap.one ⟨cs, false⟩)) w j' (.own 0 0 n n z false) v ∧ ∀ k, OwnR j' (Heap.one ⟨cs, false⟩) k → OwnR j H k := by
  have hlen := h.length
  obtain ⟨b, off, cap, ex, blk, rfl, hb, h3, h4, h5⟩ := h
  simp only [VRel] at hv
  obtain ⟨rb, base, a, cap', c, e, fr, g1, g2, g3, g4, g5, g6, g7, g8⟩ := hv
  obtain ⟨rb', base', k1, c', e', lo, hi, q1, q2, q3, q4, q5⟩ := hr.live b blk hb
  rw [g1] at k1
  obtain ⟨rfl, rfl⟩ := (by simpa using k1 : rb = rb' ∧ base = base')
  rw [g7] at q1
  obtain ⟨rfl, rfl, rfl⟩ := (by simpa using q1 : c = c' ∧ e = e' ∧ fr = (lo, hi))
  refine ⟨fun x => if x = 0 then some (rb, base + off) else none, ⟨?_, ?_, ?_⟩, ?_, ?_⟩
  · intro b' p hp
    split at hp
    · rename_i h0; subst h0; simp [Heap.one]
    · simp at hp
  · intro b' blk' hb'
    simp only [Heap.one] at hb'
    split at hb'
    · rename_i h0
      subst h0
      simp at hb'; subst hb'
      refine ⟨rb, base + off, by simp, c, e, lo, hi, g7, q2, ?_, by simp, ?_⟩
      · show base + off + cs.length ≤ c.size
        omega
      · intro i s hs
        have hs' : cs[i]? = some s := hs
        have hil : i < n * z := by
          have := (List.getElem?_eq_some_iff.1 hs').1
          omega
        rw [← h3, List.getElem?_take, if_pos hil, List.getElem?_drop] at hs'
        obtain ⟨u, p1, p2⟩ := q5 (off + i) s hs'
        refine ⟨u, by simpa [Nat.add_assoc] using p1, ?_⟩
        have hsv : isVal s = true := by
          have : s ∈ cs := by
            have := List.mem_of_getElem? hs
            exact this
          exact (List.all_eq_true.1 h5) s this
        obtain ⟨x, rfl⟩ := isVal_of hsv
        simpa only [VRel] using p2
    · simp at hb'
  · intro x x' k k' rb1 ba ba' h1 h2 h3 h4
    simp only [Heap.one] at h1 h2
    split at h1 <;> split at h2
    · rename_i e1 e2; rw [e1, e2]
    all_goals simp at h1 h2
  · simp only [VRel]
    exact ⟨rb, base + off, a, cap', c, e, (lo, hi), by simp, g2, Nat.le_refl _, by omega, by simp, by simpa using g6, g7, by simpa using g8⟩
  · rintro k ⟨b', blk', base', h1, h2⟩
    simp only at h2
    split at h2
    · simp at h2
      obtain ⟨rfl, _⟩ := h2
      exact ⟨b, blk, base, hb, g1⟩
    · simp at h2

theorem isVal_noRow : ∀ {cs : List SV}, cs.all isVal = true → noRowL cs = true
  | [], _ => rfl
  | s :: cs, h => by
    simp only [List.all_cons, Bool.and_eq_true] at h
    obtain ⟨v, rfl⟩ := isVal_of h.1
    simp [noRowL, noRow, isVal_noRow h.2]
theorem isVal_shift {k : Nat} : ∀ {cs : List SV}, cs.all isVal = true → shiftL k cs = cs
  | [], _ => by simp only [shiftL]
  | s :: cs, h => by
    simp only [List.all_cons, Bool.and_eq_true] at h
    obtain ⟨v, rfl⟩ := isVal_of h.1
    simp only [shiftL, shift, isVal_shift h.2]
theorem nr_one {cs : List SV} (h : cs.all isVal = true) : nrHeap (Heap.one ⟨cs, false⟩) := by
  intro b blk hb
  simp only [Heap.one] at hb
  split at hb
  · simp at hb; subst hb; exact isVal_noRow h
  · simp at hb

theorem FlatRes.vals {n z : Nat} {cs : List SV} {r : SV} {H : Heap} (h : FlatRes n z cs r H) : cs.all isVal = true := by
  obtain ⟨b, off, cap, ex, blk, _, _, _, _, h5⟩ := h
  exact h5

theorem FCall.one {f : FuncId} {args : List SV} {n z : Nat} {cs : List SV} (h : FCall P f args (FlatRes n z cs)) : FCall P f args (OneRes n z cs) := by
  refine ⟨h.1, fun w vs hl => (h.2 w vs hl).mono ?_⟩
  rintro e w' ⟨v, r, j, H, h1, h2, h3, h4, h5, h6, h7, h8⟩
  obtain ⟨j', r', v', o'⟩ := one_rel h8 h3 h4
  exact ⟨v, _, j', _, h1, h2, r', v', fun k hk => h5 k (o' k hk), rfl, nr_one h8.vals, rfl, rfl⟩

theorem FCall.oneT {f : FuncId} {args : List SV} {n z : Nat} {cs : List SV} {u : Value} (h : FCall P f args (fun r H => ∃ r0, r = .tup [r0, .val u] ∧ FlatRes n z cs r0 H)) :
    FCall P f args (fun r H => r = .tup [.own 0 0 n n z false, .val u] ∧ H = Heap.one ⟨cs, false⟩) := by
  refine ⟨h.1, fun w vs hl => (h.2 w vs hl).mono ?_⟩
  rintro e w' ⟨v, r, j, H, h1, h2, h3, h4, h5, h6, h7, r0, rfl, h8⟩
  simp only [VRel, LRel] at h4
  obtain ⟨vs, rfl, x, rest, rfl, hx, y, rest', rfl, rfl, rfl⟩ := h4
  obtain ⟨j', r', v', o'⟩ := one_rel h8 h3 hx
  refine ⟨_, _, j', _, h1, h2, r', ?_, fun k hk => h5 k (o' k hk), by simp [noRow, noRowL], nr_one h8.vals, rfl, rfl⟩
  simp only [VRel, LRel]
  exact ⟨_, rfl, _, _, rfl, by simpa only [VRel] using v', _, _, rfl, rfl, rfl⟩

theorem Rel.fresh {j : JMap} {H : Heap} {w : World} (r : Rel j H w) {x : Nat} (h : H.nb ≤ x) : H.map x = none := by
  cases hx : H.map x with
  | none => rfl
  | some blk =>
    obtain ⟨rb, base, h1, _⟩ := r.live x blk hx
    have := r.dom x _ h1
    omega

theorem merge_one {j : JMap} {H : Heap} {w : World} (r : Rel j H w) {cs : List SV} {ex : Bool} (h : cs.all isVal = true) : H.merge (Heap.one ⟨cs, ex⟩) = H.push ⟨cs, ex⟩ := by
  show Heap.mk _ _ = Heap.mk _ _
  simp only [Heap.one, Heap.mk.injEq, and_true]
  funext x
  by_cases h1 : x < H.nb
  · have : x ≠ H.nb := by omega
    simp [h1, this]
  · by_cases h2 : x = H.nb
    · subst h2
      simp [isVal_shift h]
    · have h3 : x - H.nb ≠ 0 := by omega
      simp [h1, h2, h3, r.fresh (by omega : H.nb ≤ x)]

/-- A call that gives back scalars in memory of its own. -/
theorem FCall.callOne {f : FuncId} {args args' : List SV} {n z : Nat} {cs : List SV} {H : Heap} {K : SV → Heap → Prop} (h : FCall P f args' (OneRes n z cs)) (hc : cs.all isVal = true) (fu : Nat) (hv : viewL H fu args = some args')
    (k : K (.own H.nb 0 n n z false) (H.push ⟨cs, false⟩)) : @CallX P f args H ⟨K⟩ := by
  refine ⟨h.1, fun j w vs r hl => ((h.callS fu hv).2 j w vs r hl).mono ?_⟩
  rintro e w' ⟨r1, v, j', H', h1, h2, h3, h4, r0, H0, ⟨rfl, rfl⟩, rfl, rfl⟩
  refine ⟨_, v, j', _, h1, h2, h3, h4, ?_⟩
  rw [merge_one r hc]
  simpa only [shift, Nat.zero_add] using k

theorem FCall.callOneT {f : FuncId} {args args' : List SV} {n z : Nat} {cs : List SV} {u : Value} {H : Heap} {K : SV → Heap → Prop} (h : FCall P f args' (fun r H => r = .tup [.own 0 0 n n z false, .val u] ∧ H = Heap.one ⟨cs, false⟩)) (hc : cs.all isVal = true) (fu : Nat) (hv : viewL H fu args = some args')
    (k : K (.tup [.own H.nb 0 n n z false, .val u]) (H.push ⟨cs, false⟩)) : @CallX P f args H ⟨K⟩ := by
  refine ⟨h.1, fun j w vs r hl => ((h.callS fu hv).2 j w vs r hl).mono ?_⟩
  rintro e w' ⟨r1, v, j', H', h1, h2, h3, h4, r0, H0, ⟨rfl, rfl⟩, rfl, rfl⟩
  refine ⟨_, v, j', _, h1, h2, h3, h4, ?_⟩
  rw [merge_one r hc]
  simpa only [shift, shiftL, Nat.zero_add] using k

/-- A call that gives back a scalar (nil too), or a tuple of scalars. -/
theorem FCall.callVal {f : FuncId} {args args' : List SV} {u : Value} {H : Heap} {K : SV → Heap → Prop} (h : FCall P f args' (fun r _ => r = .val u)) (fu : Nat) (hv : viewL H fu args = some args')
    (k : K (.val u) H) : @CallX P f args H ⟨K⟩ := by
  refine ⟨h.1, fun j w vs r hl => ?_⟩
  have hl' := viewL_sound r.live0 fu args args' vs hv (LRel.tr (Tr.weaken w (fun _ h => h.elim)) (fun _ _ h => h) args vs hl)
  refine (h.2 w vs hl').mono ?_
  rintro e w' ⟨v, r0, j0, H0, h1, h2, h3, h4, h5, h6, h7, rfl⟩
  obtain ⟨r', nx⟩ := r.below h2
  simp only [VRel] at h4
  subst h4
  exact ⟨_, _, j, H, h1, r', by simp only [VRel], nx, k⟩

theorem LRel.vals {O : Nat → Prop} {w : World} {j : JMap} : ∀ (us vs : List Value), LRel O w j (us.map SV.val) vs ↔ vs = us
  | [], vs => by simp only [List.map_nil, LRel]
  | u :: us, vs => by
    simp only [List.map_cons, LRel, VRel]
    constructor
    · rintro ⟨v, rest, rfl, rfl, h⟩
      rw [(LRel.vals us rest).1 h]
    · rintro rfl
      exact ⟨u, us, rfl, rfl, (LRel.vals us us).2 rfl⟩
/-- A call that gives back a tuple of scalars (nil too). -/
theorem FCall.callTup {f : FuncId} {args args' : List SV} {us : List Value} {H : Heap} {K : SV → Heap → Prop} (h : FCall P f args' (fun r _ => r = .tup (us.map .val))) (fu : Nat) (hv : viewL H fu args = some args')
    (k : K (.tup (us.map .val)) H) : @CallX P f args H ⟨K⟩ := by
  refine ⟨h.1, fun j w vs r hl => ?_⟩
  have hl' := viewL_sound r.live0 fu args args' vs hv (LRel.tr (Tr.weaken w (fun _ h => h.elim)) (fun _ _ h => h) args vs hl)
  refine (h.2 w vs hl').mono ?_
  rintro e w' ⟨v, r0, j0, H0, h1, h2, h3, h4, h5, h6, h7, rfl⟩
  obtain ⟨r', nx⟩ := r.below h2
  refine ⟨_, v, j, H, h1, r', ?_, nx, k⟩
  simp only [VRel] at h4 ⊢
  obtain ⟨ws, e1, e2⟩ := h4
  exact ⟨ws, e1, (LRel.vals us ws).2 ((LRel.vals us ws).1 e2)⟩

/-- A reader, at contents. -/
theorem PCall.callV {f : FuncId} {args args' : List SV} {H : Heap} {T : SV} {K : SV → Heap → Prop} (h : PCall P f args' T) (fu : Nat) (hv : viewL H fu args = some args') (k : K T H) : @CallX P f args H ⟨K⟩ :=
  (h.callS fu hv).mono (fun r H' ⟨e1, e2⟩ => by rw [e1, e2]; exact k)
theorem PCall.callDV {f : FuncId} {args args' : List SV} {H : Heap} {T : SV} {K : SV → Heap → Prop} (h : PCall P f args' T) (fu : Nat) (hv : viewL H fu args = some args') (k : K T H) : @CallD P f args H ⟨K⟩ :=
  ⟨T, h.callS fu hv, k⟩
theorem CallS.callX {f : FuncId} {args : List SV} {H : Heap} {Q K : SV → Heap → Prop} (h : CallS P f args H Q) (k : ∀ r H', Q r H' → K r H') : @CallX P f args H ⟨K⟩ := h.mono k
theorem CallS.callDet {f : FuncId} {args : List SV} {H H1 : Heap} {T : SV} {K : SV → Heap → Prop} (h : CallS P f args H (fun r H' => r = T ∧ H' = H1)) (k : K T H1) : @CallX P f args H ⟨K⟩ :=
  h.mono (fun r H' ⟨e1, e2⟩ => by rw [e1, e2]; exact k)

/-! ### Ints -/
theorem ints_vals (L : List Int) : (ints L).all isVal = true := by simp [ints, isVal]
theorem flat_ints {L : List Int} {b off cap : Nat} {ex : Bool} {blk : Blk} {H : Heap} (hb : H.map b = some blk) (h1 : (blk.cells.drop off).take L.length = ints L) (h2 : off + L.length ≤ blk.cells.length) : FlatRes L.length 1 (ints L) (.own b off L.length cap 1 ex) H :=
  ⟨b, off, cap, ex, blk, rfl, hb, by rw [Nat.mul_one]; exact h1, by rw [Nat.mul_one]; exact h2, ints_vals L⟩
theorem IntRes.flat {L : List Int} {r : SV} {H : Heap} (h : IntRes L r H) : FlatRes L.length 1 (ints L) r H := by
  obtain ⟨b, off, cap, ex, blk, rfl, h1, h2, h3⟩ := h
  exact flat_ints h1 h2 h3

theorem one_view {n : Nat} {L : List Int} {r : SV} {H : Heap} (h : OneRes n 1 (ints L) r H) (hn : n = L.length) : view H 2 r = some (ri L) := by
  subst hn
  obtain ⟨rfl, rfl⟩ := h
  have e : (Heap.one ⟨ints L, false⟩).map 0 = some ⟨ints L, false⟩ := by simp [Heap.one]
  simp only [Sh.view, e, Nat.mul_one, List.drop_zero]
  rw [if_pos (by simp [ints])]
  have : (ints L).take L.length = ints L := by rw [← ints_length L, List.take_length]
  rw [this, viewL_ints, ri]

theorem view_own {H : Heap} {b n f cap : Nat} {ex : Bool} {e2 : Bool} {L : List Int} (hb : H.map b = some ⟨ints L, e2⟩) (hn : n = L.length) : view H (f + 1) (.own b 0 n cap 1 ex) = some (ri L) := by
  subst hn
  simp only [Sh.view, hb, Nat.mul_one, List.drop_zero]
  rw [if_pos (by simp [ints])]
  have : (ints L).take L.length = ints L := by rw [← ints_length L, List.take_length]
  rw [this, viewL_ints, ri]

theorem viewL_cons_of {H : Heap} {f : Nat} {s s' : SV} {ss ss' : List SV} (h1 : view H f s = some s') (h2 : viewL H f ss = some ss') : viewL H f (s :: ss) = some (s' :: ss') := by
  simp only [viewL, h1, h2]
theorem viewL_nil_of {H : Heap} {f : Nat} : viewL H f [] = some [] := by simp only [viewL]
theorem view_row {H : Heap} {f n : Nat} {ex : Bool} {cs : List SV} : view H f (.row n ex cs) = some (.row n false cs) := by simp only [view]
theorem view_rowL {H : Heap} {f n : Nat} {ex : Bool} {L : List Int} (hn : n = L.length) : view H f (.row n ex (ints L)) = some (ri L) := by subst hn; simp only [view, ri]
theorem view_int {H : Heap} {f : Nat} {k : IntKind} {x : Int} : view H f (.val (.int k x)) = some (.val (.int k x)) := by simp only [view, viewV]
theorem view_bool {H : Heap} {f : Nat} {x : Bool} : view H f (.val (.bool x)) = some (.val (.bool x)) := by simp only [view, viewV]
theorem view_rptr {H : Heap} {f off : Nat} {cs : List SV} : view H f (.rptr cs off) = some (.rptr cs off) := by simp only [view]
theorem view_agg {H : Heap} {f : Nat} {cs cs' : List SV} (h : viewL H f cs = some cs') : view H (f + 1) (.agg cs) = some (.agg cs') := by simp only [view, h]
theorem view_optr {H : Heap} {f b off : Nat} {e : Bool} {cs cs' : List SV} (hb : H.map b = some ⟨cs, e⟩) (h : viewL H f cs = some cs') : view H (f + 1) (.optr b off) = some (.rptr cs' off) := by simp only [view, hb, h]
theorem view_clos {H : Heap} {f : Nat} {fn : Fn} {cs cs' : List SV} (h : viewL H f cs = some cs') : view H (f + 1) (.clos fn [] cs) = some (.clos fn [] cs') := by
  have : viewL H f [] = some [] := viewL_nil_of
  simp only [view, h, this]
theorem view_nil {H : Heap} {f : Nat} : view H f (.val (.slice none 0 0)) = some (ri []) := by simp only [view, viewV, ri, ints, List.map_nil, List.length_nil]
theorem Fin.agg {R : SV → Heap → Prop} {cs : List SV} {H : Heap} (hv : cs.all isVal = true) (h : R (.agg cs) ⟨fun _ => none, H.nb⟩) : Fin R (.agg cs) H :=
  ⟨⟨fun _ => none, H.nb⟩, ⟨rfl, fun _ => .inl rfl⟩, by simp only [noRow]; exact isVal_noRow hv, fun b blk hb => by simp at hb, h⟩
theorem tbf : (true == false) = false := rfl
theorem fbt : (false == true) = false := rfl
theorem tbt : (true == true) = true := rfl
theorem fbf : (false == false) = true := rfl
theorem flat_fin {n z cap b : Nat} {ex e2 : Bool} {cs : List SV} {H : Heap} (hn : cs.length = n * z) (hv : cs.all isVal = true) (hb : H.map b = some ⟨cs, e2⟩) : Fin (FlatRes n z cs) (.own b 0 n cap z ex) H := by
  refine Fin.own hb (isVal_noRow hv) ⟨b, 0, cap, ex, _, rfl, if_pos rfl, ?_, ?_, hv⟩
  · rw [List.drop_zero, ← hn, List.take_length]
  · simp [hn]
theorem fin_ints {L : List Int} {n cap b : Nat} {ex e2 : Bool} {H : Heap} (hn : n = L.length) (hb : H.map b = some ⟨ints L, e2⟩) : Fin (FlatRes n 1 (ints L)) (.own b 0 n cap 1 ex) H :=
  flat_fin (by simp [ints, hn]) (ints_vals L) hb
theorem Heap.ext' {H H' : Heap} (h1 : ∀ x, H.map x = H'.map x) (h2 : H.nb = H'.nb) : H = H' := by
  cases H; cases H'
  simp only at h1 h2
  simp only [Heap.mk.injEq]
  exact ⟨funext h1, h2⟩
theorem Heap.set_self {H : Heap} {b : Nat} {k : Option Blk} (h : H.map b = k) : H.set b k = H := by
  refine Heap.ext' (fun x => ?_) rfl
  simp only [Heap.set]
  split
  · rename_i e; rw [e, h]
  · rfl
theorem Heap.set_at (H : Heap) (b : Nat) (k : Option Blk) : (H.set b k).map b = k := by simp [Heap.set]
theorem Heap.set_nb (H : Heap) (b : Nat) (k : Option Blk) : (H.set b k).nb = H.nb := rfl
attribute [go_sem] List.map_cons List.map_nil true_and and_true if_pos if_neg decide_eq_true decide_eq_false ibeq_t ibeq_f ibne_t ibne_f Int.toNat_natCast Nat.mul_one Nat.zero_add Nat.add_zero wrap_id ge_iff_le gt_iff_lt beq_iff_eq bne_iff_ne decide_eq_true_eq decide_eq_false_iff_not ints_get ints_set ints_length ints_append ints_replicate ri_eq List.length_cons List.length_nil List.all_cons List.all_nil List.cons_append List.nil_append List.append_nil Value.oneCell' Bool.and_self Bool.true_and Bool.and_true Bool.not_true Bool.not_false and_self implies_true true_implies false_implies forall_const false_and and_false IntKind.bits Bool.true_eq_false Bool.false_eq_true not_true_eq_false not_false_eq_true Option.map_some Option.map_none Option.isNone_some Option.isNone_none Option.isSome_some Option.isSome_none Nat.sub_zero Nat.zero_mul List.drop_zero Bool.false_and Bool.and_false Nat.sub_self List.replicate_one List.set_cons_zero List.set_cons_succ ints_take_self ints_snoc decide_true decide_false List.take_succ_cons List.take_zero List.take_nil List.drop_succ_cons List.drop_nil List.replicate_zero List.getElem?_cons_zero List.getElem?_cons_succ tbf fbt tbt fbf
end Go.Sh
