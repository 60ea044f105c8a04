/-
  Texts put together: MX, N5, N6, V1, PP1, J2, PP2, V2, N1, K2, K3, N2, M0, U1, U2, V3, FI3, FS1, PI1, CT1, PS1, FM1, RF1, RF2, AT1, CT2. What each proves stands at its own head, with its conditions.
-/
import Derived.Test.YtkmckbjgffaieaaGreatDoorZFnRuleFormat3
import Derived.Lib.AtoiAll
import Derived.Lib.IndexLaws
import Derived.Lib.Split
import Derived.Lib.CountLaws
import Derived.Lib.ConvBytes
import Derived.Lib.AtoiErrMem

/-
  Matrices in memory of their own: a block of rows, each row a block of scalars.
-/
namespace Go.Sh
set_option linter.unusedSimpArgs false
set_option linter.unusedVariables false
open Go Go.Proofs

/-- What a heap holds: a block; a matrix (its outer block b, its rows b+1, b+2, ..); rows under names of any kind; a name that is gone. -/
inductive Ent where
  | blk (k : Nat) (v : Blk)
  | mat (b : Nat) (R : List (List SV))
  | rows (fl : Bool) (nr : List (Nat × List SV))
  | cut (b : Nat)

def rowAt (R : List (List SV)) (i : Nat) : List SV := R.getD i []
def outerB (b : Nat) (R : List (List SV)) : List SV := (List.range R.length).map fun i => .own (b + 1 + i) 0 (rowAt R i).length (rowAt R i).length 1 false
def outerN (fl : Bool) (nr : List (Nat × List SV)) : List SV := nr.map fun p => .own p.1 0 p.2.length p.2.length 1 fl
def matMap (b : Nat) (R : List (List SV)) (x : Nat) : Option Blk := if x = b then some ⟨outerB b R, false⟩ else some ⟨rowAt R (x - b - 1), false⟩
def nrFind : List (Nat × List SV) → Nat → Option (List SV)
  | [], _ => none
  | p :: l, x => if x = p.1 then some p.2 else nrFind l x
def xmap : List Ent → Nat → Option Blk
  | [], _ => none
  | .blk k v :: l, x => if x = k then some v else xmap l x
  | .mat b R :: l, x => if b ≤ x ∧ x ≤ b + R.length then matMap b R x else xmap l x
  | .rows fl nr :: l, x => match nrFind nr x with
    | some r => some ⟨r, fl⟩
    | none => xmap l x
  | .cut b :: l, x => if x = b then none else xmap l x
def hx (l : List Ent) (n : Nat) : Heap := ⟨xmap l, n⟩
def toE (l : List (Nat × Blk)) : List Ent := l.map fun p => .blk p.1 p.2
theorem toE_nil : toE [] = [] := rfl
theorem toE_cons (k : Nat) (v : Blk) (l : List (Nat × Blk)) : toE ((k, v) :: l) = .blk k v :: toE l := rfl
theorem hp_hx (l : List (Nat × Blk)) (n : Nat) : hp l n = hx (toE l) n := by
  refine Heap.ext' (fun x => ?_) rfl
  show hmap l x = xmap (toE l) x
  induction l with
  | nil => rfl
  | cons p l ih =>
    obtain ⟨k, v⟩ := p
    simp only [toE_cons, hmap, xmap, ih]
theorem hx_nb (l : List Ent) (n : Nat) : (hx l n).nb = n := rfl
theorem hx_map (l : List Ent) (n x : Nat) : (hx l n).map x = xmap l x := rfl
theorem hx_push (l : List Ent) (n : Nat) (k : Blk) : (hx l n).push k = hx (.blk n k :: l) (n + 1) := rfl
theorem xmap_blk (k : Nat) (v : Blk) (l : List Ent) (x : Nat) : xmap (.blk k v :: l) x = if x = k then some v else xmap l x := rfl
theorem xmap_nil (x : Nat) : xmap [] x = none := rfl

def Heap.pushM (H : Heap) (R : List (List SV)) : Heap := ⟨fun x => if H.nb ≤ x ∧ x ≤ H.nb + R.length then matMap H.nb R x else H.map x, H.nb + R.length + 1⟩
theorem hx_pushM (l : List Ent) (n : Nat) (R : List (List SV)) : (hx l n).pushM R = hx (.mat n R :: l) (n + R.length + 1) := rfl
theorem hp_pushM (l : List (Nat × Blk)) (n : Nat) (R : List (List SV)) : (hp l n).pushM R = hx (.mat n R :: toE l) (n + R.length + 1) := by rw [hp_hx, hx_pushM]

def xset : List Ent → Nat → Blk → List Ent
  | [], b, x => [.blk b x]
  | .blk k v :: l, b, x => if k = b then .blk k x :: l else .blk k v :: xset l b x
  | .mat c R :: l, b, x => if c < b ∧ b ≤ c + R.length ∧ x.cells.length = (rowAt R (b - c - 1)).length ∧ x.ex = false then .mat c (R.set (b - c - 1) x.cells) :: l else if b < c ∨ c + R.length < b then .mat c R :: xset l b x else .blk b x :: .mat c R :: l
  | .rows fl nr :: l, b, x => .blk b x :: .rows fl nr :: l
  | .cut c :: l, b, x => .blk b x :: .cut c :: l
theorem rowAt_length {R : List (List SV)} {i : Nat} (h : i < R.length) : rowAt R i = R[i] := by simp [rowAt, h]
theorem outerB_set {b : Nat} {R : List (List SV)} {i : Nat} {r : List SV} (h : r.length = (rowAt R i).length) : outerB b (R.set i r) = outerB b R := by
  unfold outerB
  rw [List.length_set]
  refine List.map_congr_left (fun k hk => ?_)
  have hk : k < R.length := by simpa using hk
  have e : (rowAt (R.set i r) k).length = (rowAt R k).length := by
    rw [rowAt_length (by simpa using hk), rowAt_length hk, List.getElem_set]
    split
    · rename_i e; subst e
      rw [h, rowAt_length hk]
    · rfl
  rw [e]
theorem xmap_set : ∀ (l : List Ent) (b : Nat) (k : Blk) (x : Nat), (if x = b then some k else xmap l x) = xmap (xset l b k) x
  | [], b, k, x => by simp only [xset, xmap]
  | .blk c v :: l, b, k, x => by
    have ih := xmap_set l b k x
    simp only [xset]
    by_cases e : c = b
    · rw [if_pos e]
      subst e
      simp only [xmap]
      by_cases hx : x = c <;> simp [hx]
    · rw [if_neg e]
      simp only [xmap, ← ih]
      by_cases hx : x = b
      · subst hx
        rw [if_pos rfl, if_neg (by omega), if_pos rfl]
      · rw [if_neg hx, if_neg hx]
  | .mat c R :: l, b, k, x => by
    have ih := xmap_set l b k x
    simp only [xset]
    by_cases h : c < b ∧ b ≤ c + R.length ∧ k.cells.length = (rowAt R (b - c - 1)).length ∧ k.ex = false
    · rw [if_pos h]
      obtain ⟨h1, h2, h3, h4⟩ := h
      obtain ⟨kc, kx⟩ := k
      simp only at h3 h4
      subst h4
      simp only [xmap, List.length_set]
      by_cases hx : x = b
      · subst hx
        rw [if_pos rfl, if_pos (by omega), matMap, if_neg (by omega), rowAt_length (by simp; omega)]
        simp
      · rw [if_neg hx]
        by_cases hr : c ≤ x ∧ x ≤ c + R.length
        · rw [if_pos hr, if_pos hr, matMap, matMap, outerB_set h3]
          by_cases hc : x = c
          · rw [if_pos hc, if_pos hc]
          · rw [if_neg hc, if_neg hc]
            rw [rowAt_length (by omega), rowAt_length (by simp; omega), List.getElem_set_ne (by omega)]
        · rw [if_neg hr, if_neg hr]
    · rw [if_neg h]
      by_cases h2 : b < c ∨ c + R.length < b
      · rw [if_pos h2]
        simp only [xmap, ← ih]
        by_cases hx : x = b
        · subst hx
          rw [if_pos rfl, if_pos rfl, if_neg (by omega)]
        · rw [if_neg hx, if_neg hx]
      · rw [if_neg h2]
        rfl
  | .rows fl nr :: l, b, k, x => rfl
  | .cut c :: l, b, k, x => rfl
theorem hx_set (l : List Ent) (n b : Nat) (k : Blk) : (hx l n).set b (some k) = hx (xset l b k) n :=
  Heap.ext' (fun x => xmap_set l b k x) rfl
def xdel : List Ent → Nat → List Ent
  | [], _ => []
  | .blk k v :: l, b => if k = b then xdel l b else .blk k v :: xdel l b
  | .mat c R :: l, b => if b < c ∨ c + R.length < b then .mat c R :: xdel l b else .cut b :: .mat c R :: l
  | .rows fl nr :: l, b => .cut b :: .rows fl nr :: l
  | .cut c :: l, b => .cut b :: .cut c :: l
theorem xmap_del : ∀ (l : List Ent) (b : Nat) (x : Nat), (if x = b then none else xmap l x) = xmap (xdel l b) x
  | [], b, x => by simp only [xdel, xmap]; split <;> rfl
  | .blk c v :: l, b, x => by
    have ih := xmap_del l b x
    simp only [xdel]
    by_cases e : c = b
    · rw [if_pos e, ← ih]
      subst e
      simp only [xmap]
      by_cases hx : x = c <;> simp [hx]
    · rw [if_neg e]
      simp only [xmap, ← ih]
      by_cases hx : x = b
      · subst hx
        rw [if_pos rfl, if_neg (by omega), if_pos rfl]
      · rw [if_neg hx, if_neg hx]
  | .mat c R :: l, b, x => by
    have ih := xmap_del l b x
    simp only [xdel]
    by_cases h2 : b < c ∨ c + R.length < b
    · rw [if_pos h2]
      simp only [xmap, ← ih]
      by_cases hx : x = b
      · subst hx
        rw [if_pos rfl, if_pos rfl, if_neg (by omega)]
      · rw [if_neg hx, if_neg hx]
    · rw [if_neg h2]; rfl
  | .rows fl nr :: l, b, x => rfl
  | .cut c :: l, b, x => rfl
theorem hx_del (l : List Ent) (n b : Nat) : (hx l n).set b none = hx (xdel l b) n :=
  Heap.ext' (fun x => xmap_del l b x) rfl
theorem xdel_blk (k : Nat) (v : Blk) (l : List Ent) (b : Nat) : xdel (.blk k v :: l) b = if k = b then xdel l b else .blk k v :: xdel l b := rfl
theorem xdel_rows (fl : Bool) (nr : List (Nat × List SV)) (l : List Ent) (b : Nat) : xdel (.rows fl nr :: l) b = .cut b :: .rows fl nr :: l := rfl
theorem xdel_nil (b : Nat) : xdel [] b = [] := rfl
theorem xset_blk (k : Nat) (v : Blk) (l : List Ent) (b : Nat) (x : Blk) : xset (.blk k v :: l) b x = if k = b then .blk k x :: l else .blk k v :: xset l b x := rfl
theorem xset_nil (b : Nat) (x : Blk) : xset [] b x = [.blk b x] := rfl

/-! ### Of ints, of bools -/
def mset (M : List (List Int)) (i c : Nat) (x : Int) : List (List Int) := M.set i ((mrow M i).set c x)
def mi (M : List (List Int)) : List (List SV) := M.map ints
theorem mi_length (M : List (List Int)) : (mi M).length = M.length := by simp [mi]
theorem mi_row {M : List (List Int)} {i : Nat} (h : i < M.length) : rowAt (mi M) i = ints (mrow M i) := by simp [rowAt, mi, mrow, h]
theorem mset_length (M : List (List Int)) (i c : Nat) (x : Int) : (mset M i c x).length = M.length := by simp [mset]
theorem mset_row_length (M : List (List Int)) (i c k : Nat) (x : Int) : (mrow (mset M i c x) k).length = (mrow M k).length := by
  simp only [mrow, mset, List.getD_eq_getElem?_getD, List.getElem?_set]
  by_cases h : i = k
  · subst h
    by_cases h2 : i < M.length
    · simp [h2]
    · simp [h2]
  · simp [h]
def bools (L : List Bool) : List SV := L.map fun x => .val (.bool x)
theorem bools_length (L : List Bool) : (bools L).length = L.length := by simp [bools]
theorem bools_get {L : List Bool} {k : Nat} (h : k < L.length) : (bools L)[k]? = some (.val (.bool (L.getD k false))) := by simp [bools, h]
theorem bools_set (L : List Bool) (k : Nat) (x : Bool) : (bools L).set k (.val (.bool x)) = bools (L.set k x) := by simp [bools, List.map_set]
theorem bools_replicate (n : Nat) (x : Bool) : List.replicate n (SV.val (.bool x)) = bools (List.replicate n x) := by simp [bools]
theorem viewL_bools (H : Heap) (f : Nat) : ∀ L : List Bool, viewL H f (bools L) = some (bools L)
  | [] => viewL_nil_of
  | x :: L => viewL_cons_of view_bool (viewL_bools H f L)
theorem bools_vals (L : List Bool) : (bools L).all isVal = true := by simp [bools, isVal]
def brow (M : List (List Bool)) (i : Nat) : List Bool := M.getD i []
def bmat (M : List (List Bool)) (i k : Nat) : Bool := (brow M i).getD k false
def bset (M : List (List Bool)) (i c : Nat) (x : Bool) : List (List Bool) := M.set i ((brow M i).set c x)
def mb (M : List (List Bool)) : List (List SV) := M.map bools
theorem mb_length (M : List (List Bool)) : (mb M).length = M.length := by simp [mb]
theorem mb_row {M : List (List Bool)} {i : Nat} (h : i < M.length) : rowAt (mb M) i = bools (brow M i) := by simp [rowAt, mb, brow, h]
theorem bset_length (M : List (List Bool)) (i c : Nat) (x : Bool) : (bset M i c x).length = M.length := by simp [bset]
theorem bset_row_length (M : List (List Bool)) (i c k : Nat) (x : Bool) : (brow (bset M i c x) k).length = (brow M k).length := by
  simp only [brow, bset, List.getD_eq_getElem?_getD, List.getElem?_set]
  by_cases h : i = k
  · subst h
    by_cases h2 : i < M.length
    · simp [h2]
    · simp [h2]
  · simp [h]
def rowsB (M : List (List Bool)) : List SV := M.map fun r => .row r.length false (bools r)
def rb (M : List (List Bool)) : SV := .row M.length false (rowsB M)
theorem rb_eq (M : List (List Bool)) : rb M = .row M.length false (rowsB M) := rfl
theorem rowsB_length (M : List (List Bool)) : (rowsB M).length = M.length := by simp [rowsB]
theorem rowsB_get {M : List (List Bool)} {k : Nat} (h : k < M.length) : (rowsB M)[k]? = some (.row (brow M k).length false (bools (brow M k))) := by
  simp [rowsB, brow, h]

theorem mset_at (M : List (List Int)) (i c : Nat) (x : Int) {k d : Nat} (hi : i < M.length) (hc : c < (mrow M i).length) : mat (mset M i c x) k d = if k = i ∧ d = c then x else mat M k d := by
  simp only [mat, mrow, mset, List.getD_eq_getElem?_getD, List.getElem?_set]
  by_cases h : i = k
  · subst h
    simp only [hi, if_true, true_and, Option.getD_some, List.getElem?_set]
    by_cases h2 : c = d
    · subst h2
      simp only [mrow, List.getD_eq_getElem?_getD] at hc
      simp [hc]
    · have : ¬ d = c := fun e => h2 e.symm
      simp [h2, this]
  · have : ¬ k = i := fun e => h e.symm
    simp [h, this]
theorem bset_at (M : List (List Bool)) (i c : Nat) (x : Bool) {k d : Nat} (hi : i < M.length) (hc : c < (brow M i).length) : bmat (bset M i c x) k d = if k = i ∧ d = c then x else bmat M k d := by
  simp only [bmat, brow, bset, List.getD_eq_getElem?_getD, List.getElem?_set]
  by_cases h : i = k
  · subst h
    simp only [hi, if_true, true_and, Option.getD_some, List.getElem?_set]
    by_cases h2 : c = d
    · subst h2
      simp only [brow, List.getD_eq_getElem?_getD] at hc
      simp [hc]
    · have : ¬ d = c := fun e => h2 e.symm
      simp [h2, this]
  · have : ¬ k = i := fun e => h e.symm
    simp [h, this]

theorem outerB_length (b : Nat) (R : List (List SV)) : (outerB b R).length = R.length := by simp [outerB]
theorem xmap_mat (b : Nat) (R : List (List SV)) (l : List Ent) : xmap (.mat b R :: l) b = some ⟨outerB b R, false⟩ := by
  simp [xmap, matMap]
theorem xmap_rowI {b i : Nat} {M : List (List Int)} {l : List Ent} (h : i < M.length) : xmap (.mat b (mi M) :: l) (b + 1 + i) = some ⟨ints (mrow M i), false⟩ := by
  rw [xmap, if_pos (by rw [mi_length]; omega), matMap, if_neg (by omega), ← mi_row h]
  congr 3; omega
theorem xmap_rowB {b i : Nat} {M : List (List Bool)} {l : List Ent} (h : i < M.length) : xmap (.mat b (mb M) :: l) (b + 1 + i) = some ⟨bools (brow M i), false⟩ := by
  rw [xmap, if_pos (by rw [mb_length]; omega), matMap, if_neg (by omega), ← mb_row h]
  congr 3; omega
theorem xmap_skipI {b x : Nat} {M : List (List Int)} {l : List Ent} (h : x < b ∨ b + M.length < x) : xmap (.mat b (mi M) :: l) x = xmap l x := by
  rw [xmap, if_neg (by rw [mi_length]; omega)]
theorem xmap_skipB {b x : Nat} {M : List (List Bool)} {l : List Ent} (h : x < b ∨ b + M.length < x) : xmap (.mat b (mb M) :: l) x = xmap l x := by
  rw [xmap, if_neg (by rw [mb_length]; omega)]
theorem outerB_getI {b k : Nat} {M : List (List Int)} (h : k < M.length) : (outerB b (mi M))[k]? = some (.own (b + 1 + k) 0 (mrow M k).length (mrow M k).length 1 false) := by
  simp only [outerB, List.getElem?_map, mi_length]
  rw [List.getElem?_range h]
  simp only [Option.map_some, mi_row h, ints_length]
theorem outerB_getB {b k : Nat} {M : List (List Bool)} (h : k < M.length) : (outerB b (mb M))[k]? = some (.own (b + 1 + k) 0 (brow M k).length (brow M k).length 1 false) := by
  simp only [outerB, List.getElem?_map, mb_length]
  rw [List.getElem?_range h]
  simp only [Option.map_some, mb_row h, bools_length]
theorem xset_rowI {b i c : Nat} {x : Int} {M : List (List Int)} {l : List Ent} (h : i < M.length) : xset (.mat b (mi M) :: l) (b + 1 + i) ⟨ints ((mrow M i).set c x), false⟩ = .mat b (mi (mset M i c x)) :: l := by
  have e : b + 1 + i - b - 1 = i := by omega
  rw [xset, e, if_pos ⟨by omega, by rw [mi_length]; omega, by rw [mi_row h, ints_length, ints_length, List.length_set], rfl⟩]
  simp [mset, mi, List.map_set]
theorem xset_rowB {b i c : Nat} {x : Bool} {M : List (List Bool)} {l : List Ent} (h : i < M.length) : xset (.mat b (mb M) :: l) (b + 1 + i) ⟨bools ((brow M i).set c x), false⟩ = .mat b (mb (bset M i c x)) :: l := by
  have e : b + 1 + i - b - 1 = i := by omega
  rw [xset, e, if_pos ⟨by omega, by rw [mb_length]; omega, by rw [mb_row h, bools_length, bools_length, List.length_set], rfl⟩]
  simp [bset, mb, List.map_set]
theorem xset_skipI {b x : Nat} {M : List (List Int)} {l : List Ent} {k : Blk} (h : x < b ∨ b + M.length < x) : xset (.mat b (mi M) :: l) x k = .mat b (mi M) :: xset l x k := by
  rw [xset, if_neg (by rw [mi_length]; omega), if_pos (by rw [mi_length]; exact h)]
theorem xset_skipB {b x : Nat} {M : List (List Bool)} {l : List Ent} {k : Blk} (h : x < b ∨ b + M.length < x) : xset (.mat b (mb M) :: l) x k = .mat b (mb M) :: xset l x k := by
  rw [xset, if_neg (by rw [mb_length]; omega), if_pos (by rw [mb_length]; exact h)]

/-! ### A round's end -/
def EntIn (H : Heap) : Ent → Prop
  | .blk k v => H.map k = some v
  | .mat b R => ∀ x, b ≤ x → x ≤ b + R.length → H.map x = matMap b R x
  | .rows fl nr => ∀ p ∈ nr, H.map p.1 = some ⟨p.2, fl⟩
  | .cut b => H.map b = none
theorem nrFind_mem : ∀ {nr : List (Nat × List SV)} {x : Nat} {r : List SV}, nrFind nr x = some r → (x, r) ∈ nr
  | [], x, r, h => by simp [nrFind] at h
  | p :: l, x, r, h => by
    rw [nrFind] at h
    split at h
    · rename_i e; subst e
      simp at h; subst h; simp
    · exact List.mem_cons_of_mem _ (nrFind_mem h)
theorem Wk.ofX {s : St} {l : List (Nat × SV)} {lb : List Ent} {n : Nat} (h : ∀ p ∈ l, s.σ p.1 = p.2) (hm : ∀ e ∈ lb, EntIn s.H e) (hn : s.H.nb ≤ n) : Wk s ⟨ofL l, hx lb n⟩ := by
  refine ⟨ofL_wk h, hn, fun b => ?_⟩
  show xmap lb b = none ∨ xmap lb b = s.H.map b
  clear h hn
  induction lb with
  | nil => exact .inl rfl
  | cons q lb ih =>
    have ih := ih (fun e he => hm e (by simp [he]))
    have hq := hm q (by simp)
    cases q with
    | blk k v =>
      rw [xmap]
      split
      · rename_i e; subst e; exact .inr hq.symm
      · exact ih
    | mat c R =>
      rw [xmap]
      split
      · rename_i e; exact .inr (hq b e.1 e.2).symm
      · exact ih
    | rows fl nr =>
      rw [xmap]
      split
      · rename_i r hr
        exact .inr (hq _ (nrFind_mem hr)).symm
      · exact ih
    | cut c =>
      rw [xmap]
      split
      · exact .inl rfl
      · exact ih
theorem EntIn.self {b : Nat} {R : List (List SV)} {l : List Ent} {n : Nat} : EntIn (hx (.mat b R :: l) n) (.mat b R) := by
  intro x h1 h2
  rw [hx_map, xmap, if_pos ⟨h1, h2⟩]
theorem EntIn.skipM {b k n : Nat} {v : Blk} {R : List (List SV)} {l : List Ent} (h : EntIn (hx l n) (.mat b R)) (hk : k < b ∨ b + R.length < k) : EntIn (hx (.blk k v :: l) n) (.mat b R) := by
  intro x h1 h2
  rw [hx_map, xmap, if_neg (by omega)]
  exact h x h1 h2
theorem EntIn.skipMM {b c n : Nat} {R S : List (List SV)} {l : List Ent} (h : EntIn (hx l n) (.mat b R)) (hk : c + S.length < b ∨ b + R.length < c) : EntIn (hx (.mat c S :: l) n) (.mat b R) := by
  intro x h1 h2
  rw [hx_map, xmap, if_neg (by omega)]
  exact h x h1 h2
theorem EntIn.skipR {k n : Nat} {v : Blk} {fl : Bool} {nr : List (Nat × List SV)} {l : List Ent} (h : EntIn (hx l n) (.rows fl nr)) (hk2 : ∀ p ∈ nr, p.1 ≠ k) : EntIn (hx (.blk k v :: l) n) (.rows fl nr) := by
  intro p hp
  rw [hx_map, xmap, if_neg (hk2 p hp)]; exact h p hp
theorem EntIn.skipC {k n : Nat} {fl : Bool} {nr : List (Nat × List SV)} {l : List Ent} (h : EntIn (hx l n) (.rows fl nr)) (hk2 : ∀ p ∈ nr, p.1 ≠ k) : EntIn (hx (.cut k :: l) n) (.rows fl nr) := by
  intro p hp
  rw [hx_map, xmap, if_neg (hk2 p hp)]; exact h p hp
theorem EntIn.snoc {H : Heap} {b : Nat} {r : List SV} {fl : Bool} {nr : List (Nat × List SV)} (h : EntIn H (.rows fl nr)) (h2 : H.map b = some ⟨r, fl⟩) : EntIn H (.rows fl (nr ++ [(b, r)])) := by
  intro p hp
  rcases List.mem_append.1 hp with hp | hp
  · exact h p hp
  · simp at hp; subst hp; exact h2
theorem outerN_snoc (fl : Bool) (nr : List (Nat × List SV)) (b : Nat) (r : List SV) : outerN fl (nr ++ [(b, r)]) = outerN fl nr ++ [.own b 0 r.length r.length 1 fl] := by simp [outerN]
theorem outerN_length (fl : Bool) (nr : List (Nat × List SV)) : (outerN fl nr).length = nr.length := by simp [outerN]
theorem outerN_flat (fl : Bool) (nr : List (Nat × List SV)) : (outerN fl nr).all flat = true := by simp [outerN, flat]
/-- No name twice. -/
def NrOk (b nb : Nat) (nr : List (Nat × List SV)) : Prop := b < nb ∧ (∀ p ∈ nr, p.1 < nb ∧ p.1 ≠ b) ∧ (nr.map (·.1)).Nodup
theorem nrFind_get : ∀ {nr : List (Nat × List SV)} {p : Nat × List SV}, (nr.map (·.1)).Nodup → p ∈ nr → nrFind nr p.1 = some p.2
  | [], p, _, h => by simp at h
  | q :: l, p, hn, h => by
    simp only [List.map_cons, List.nodup_cons] at hn
    rw [nrFind]
    rcases List.mem_cons.1 h with rfl | h
    · rw [if_pos rfl]
    · rw [if_neg (fun e => hn.1 (by rw [← e]; exact List.mem_map_of_mem h))]
      exact nrFind_get hn.2 h
theorem EntIn.selfR {n : Nat} {fl : Bool} {nr : List (Nat × List SV)} {l : List Ent} (h : (nr.map (·.1)).Nodup) : EntIn (hx (.rows fl nr :: l) n) (.rows fl nr) := by
  intro p hp
  rw [hx_map, xmap, nrFind_get h hp]
theorem NrOk.nil {b nb : Nat} (h : b < nb) : NrOk b nb [] := ⟨h, by simp, by simp⟩
theorem NrOk.snoc {b nb b' nb' x : Nat} {r : List SV} {nr : List (Nat × List SV)} (h : NrOk b nb nr) (h1 : nb ≤ x) (h2 : nb ≤ b') (h3 : x ≠ b') (h4 : x < nb') (h5 : b' < nb') : NrOk b' nb' (nr ++ [(x, r)]) := by
  refine ⟨h5, fun p hp => ?_, ?_⟩
  · rcases List.mem_append.1 hp with hp | hp
    · have := (h.2.1 p hp).1; omega
    · simp at hp; subst hp; exact ⟨h4, h3⟩
  · rw [List.map_append, List.nodup_append]
    refine ⟨h.2.2, by simp, ?_⟩
    intro a ha c hc
    obtain ⟨p, hp, rfl⟩ := List.mem_map.1 ha
    simp at hc; subst hc
    have := (h.2.1 p hp).1; omega

/-! ### Results -/
def MatRes (R : List (List SV)) (r : SV) (H : Heap) : Prop :=
  ∃ (b off cap : Nat) (ex : Bool) (blk : Blk), r = .own b off R.length cap 1 ex ∧ H.map b = some blk ∧ off + R.length ≤ blk.cells.length ∧ (∀ row ∈ R, row.all isVal = true) ∧
    ∃ nm oi : Nat → Nat, (∀ i i', i < R.length → i' < R.length → nm i = nm i' → i = i') ∧ (∀ i, i < R.length → nm i ≠ b) ∧
      ∀ i, i < R.length → ∃ capi exi blki, blk.cells[off + i]? = some (.own (nm i) (oi i) (rowAt R i).length capi 1 exi) ∧ H.map (nm i) = some blki ∧ (blki.cells.drop (oi i)).take (rowAt R i).length = rowAt R i ∧ oi i + (rowAt R i).length ≤ blki.cells.length
def MatOne (R : List (List SV)) (r : SV) (H : Heap) : Prop := r = .own 0 0 R.length R.length 1 false ∧ H = hx [.mat 0 R] (R.length + 1)

theorem outerB_get {b k : Nat} {R : List (List SV)} (h : k < R.length) : (outerB b R)[k]? = some (.own (b + 1 + k) 0 (rowAt R k).length (rowAt R k).length 1 false) := by
  simp only [outerB, List.getElem?_map]
  rw [List.getElem?_range h]
  rfl
theorem rowAt_mem {R : List (List SV)} {i : Nat} (h : i < R.length) : rowAt R i ∈ R := by rw [rowAt_length h]; exact List.getElem_mem h
theorem own_zero {O : Nat → Prop} {w : World} {j : JMap} {v : Value} {b off n cap sz : Nat} {ex : Bool} {rb base : Nat} (h : VRel O w j (.own b off n cap sz ex) v) (hj : j b = some (rb, base)) {j' : JMap} {b' : Nat} {O' : Nat → Prop} (hj' : j' b' = some (rb, base + off)) :
    VRel O' w j' (.own b' 0 n n sz false) v := by
  simp only [VRel] at h ⊢
  obtain ⟨rb', base', a, cap', c, e, fr, g1, g2, g3, g4, g5, g6, g7, g8⟩ := h
  rw [hj] at g1
  obtain ⟨rfl, rfl⟩ := (by simpa using g1 : rb = rb' ∧ base = base')
  exact ⟨rb, base + off, a, cap', c, e, fr, hj', g2, Nat.le_refl _, by omega, by simp, by simpa using g6, g7, by simpa using g8⟩

theorem mat_rel {R : List (List SV)} {j : JMap} {H : Heap} {w : World} {r : SV} {v : Value} (h : MatRes R r H) (hr : Rel j H w) (hv : VRel (OwnR j H) w j r v) :
    ∃ j', Rel j' (hx [.mat 0 R] (R.length + 1)) w ∧ VRel (OwnR j' (hx [.mat 0 R] (R.length + 1))) w j' (.own 0 0 R.length R.length 1 false) v ∧ ∀ k, OwnR j' (hx [.mat 0 R] (R.length + 1)) k → OwnR j H k := by
  obtain ⟨b, off, cap, ex, blk, rfl, hb, hlen, hval, nm, oi, hinj, hne, hrow⟩ := h
  obtain ⟨rb, base, k1, hat⟩ := hr.live b blk hb
  let j' : JMap := fun x => if x = 0 then some (rb, base + off) else if x ≤ R.length then (j (nm (x - 1))).map (fun p => (p.1, p.2 + oi (x - 1))) else none
  have j0 : j' 0 = some (rb, base + off) := rfl
  have jr : ∀ i, i < R.length → ∃ rbi basei, j (nm i) = some (rbi, basei) ∧ j' (0 + 1 + i) = some (rbi, basei + oi i) := by
    intro i hi
    obtain ⟨capi, exi, blki, q1, q2, q3, q4⟩ := hrow i hi
    obtain ⟨rbi, basei, p1, _⟩ := hr.live _ blki q2
    refine ⟨rbi, basei, p1, ?_⟩
    show (if 0 + 1 + i = 0 then _ else if 0 + 1 + i ≤ R.length then (j (nm (0 + 1 + i - 1))).map _ else none) = _
    have e : 0 + 1 + i - 1 = i := by omega
    rw [if_neg (by omega), if_pos (by omega), e, p1]
    rfl
  have hm0 : (hx [.mat 0 R] (R.length + 1)).map 0 = some ⟨outerB 0 R, false⟩ := by rw [hx_map, xmap_mat]
  have hmr : ∀ i, i < R.length → (hx [.mat 0 R] (R.length + 1)).map (0 + 1 + i) = some ⟨rowAt R i, false⟩ := by
    intro i hi
    rw [hx_map, xmap, if_pos (by omega), matMap, if_neg (by omega)]
    congr 3; omega
  have hms : ∀ x bl, (hx [.mat 0 R] (R.length + 1)).map x = some bl → (x = 0 ∧ bl = ⟨outerB 0 R, false⟩) ∨ ∃ i, i < R.length ∧ x = 0 + 1 + i ∧ bl = ⟨rowAt R i, false⟩ := by
    intro x bl hx
    rw [hx_map, xmap] at hx
    split at hx
    · rename_i hr
      rw [matMap] at hx
      split at hx
      · rename_i h0
        simp at hx
        exact .inl ⟨h0, hx.symm⟩
      · rename_i h0
        simp at hx
        exact .inr ⟨x - 1, by omega, by omega, hx.symm⟩
    · simp [xmap] at hx
  have hback : ∀ k, OwnR j' (hx [.mat 0 R] (R.length + 1)) k → OwnR j H k := by
    rintro k ⟨x, bl, bs, h1, h2⟩
    rcases hms x bl h1 with ⟨rfl, rfl⟩ | ⟨i, hi, rfl, rfl⟩
    · rw [j0] at h2
      simp at h2
      obtain ⟨rfl, _⟩ := h2
      exact ⟨b, blk, base, hb, k1⟩
    · obtain ⟨rbi, basei, p1, p2⟩ := jr i hi
      rw [p2] at h2
      simp at h2
      obtain ⟨rfl, _⟩ := h2
      obtain ⟨capi, exi, blki, q1, q2, q3, q4⟩ := hrow i hi
      exact ⟨nm i, blki, basei, q2, p1⟩
  refine ⟨j', ⟨hr.tab.tr (Tr.weaken w hback), ?_, ?_, ?_⟩, own_zero hv k1 j0, hback⟩
  · intro x p hp
    show x < R.length + 1
    by_cases h0 : x = 0
    · omega
    · have : (if x = 0 then some (rb, base + off) else if x ≤ R.length then (j (nm (x - 1))).map (fun p => (p.1, p.2 + oi (x - 1))) else none) = some p := hp
      rw [if_neg h0] at this
      split at this
      · omega
      · simp at this
  · intro x bl hx
    obtain ⟨c, e, lo, hi', q2, q3, q4, q5, q6⟩ := hat
    rcases hms x bl hx with ⟨rfl, rfl⟩ | ⟨i, hi, rfl, rfl⟩
    · refine ⟨rb, base + off, j0, c, e, lo, hi', q2, q3, ?_, by simp, ?_⟩
      · show base + off + (outerB 0 R).length ≤ c.size
        rw [outerB_length]; omega
      · intro i s hs
        have hs' : (outerB 0 R)[i]? = some s := hs
        have hi : i < R.length := by
          have := (List.getElem?_eq_some_iff.1 hs').1
          rwa [outerB_length] at this
        rw [outerB_get hi] at hs'
        simp at hs'
        subst hs'
        obtain ⟨capi, exi, blki, p1, p2, p3, p4⟩ := hrow i hi
        obtain ⟨u, g1, g2⟩ := q6 (off + i) _ p1
        obtain ⟨rbi, basei, t1, t2⟩ := jr i hi
        exact ⟨u, by simpa [Nat.add_assoc] using g1, by simpa only [Nat.zero_add] using own_zero g2 t1 t2⟩
    · obtain ⟨capi, exi, blki, p1, p2, p3, p4⟩ := hrow i hi
      obtain ⟨rbi, basei, t1, t2⟩ := jr i hi
      obtain ⟨rbi', basei', s1, c', e', lo', hi2, s2, s3, s4, s5, s6⟩ := hr.live _ blki p2
      rw [t1] at s1
      obtain ⟨rfl, rfl⟩ := (by simpa using s1 : rbi = rbi' ∧ basei = basei')
      refine ⟨rbi, basei + oi i, t2, c', e', lo', hi2, s2, s3, ?_, by simp, ?_⟩
      · show basei + oi i + (rowAt R i).length ≤ c'.size
        omega
      · intro k s hs
        have hs' : (rowAt R i)[k]? = some s := hs
        have hk : k < (rowAt R i).length := (List.getElem?_eq_some_iff.1 hs').1
        rw [← p3, List.getElem?_take, if_pos hk, List.getElem?_drop] at hs'
        obtain ⟨u, g1, g2⟩ := s6 (oi i + k) s hs'
        refine ⟨u, by simpa [Nat.add_assoc] using g1, ?_⟩
        have hsv : isVal s = true := (List.all_eq_true.1 (hval _ (rowAt_mem hi))) s (List.mem_of_getElem? hs)
        obtain ⟨z, rfl⟩ := isVal_of hsv
        simpa only [VRel] using g2
  · intro x x' bl bl' rb1 ba ba' h1 h2 h3 h4
    rcases hms x bl h1 with ⟨rfl, rfl⟩ | ⟨i, hi, rfl, rfl⟩ <;> rcases hms x' bl' h2 with ⟨rfl, rfl⟩ | ⟨i', hi', rfl, rfl⟩
    · rfl
    · obtain ⟨rbi, basei, t1, t2⟩ := jr i' hi'
      obtain ⟨capi, exi, blki, p1, p2, p3, p4⟩ := hrow i' hi'
      rw [j0] at h3
      rw [t2] at h4
      simp at h3 h4
      obtain ⟨rfl, _⟩ := h3
      obtain ⟨rfl, _⟩ := h4
      exact absurd (hr.inj _ _ _ _ _ _ _ p2 hb t1 k1) (hne i' hi')
    · obtain ⟨rbi, basei, t1, t2⟩ := jr i hi
      obtain ⟨capi, exi, blki, p1, p2, p3, p4⟩ := hrow i hi
      rw [j0] at h4
      rw [t2] at h3
      simp at h3 h4
      obtain ⟨rfl, _⟩ := h3
      obtain ⟨rfl, _⟩ := h4
      exact absurd (hr.inj _ _ _ _ _ _ _ p2 hb t1 k1) (hne i hi)
    · obtain ⟨rbi, basei, t1, t2⟩ := jr i hi
      obtain ⟨capi, exi, blki, p1, p2, p3, p4⟩ := hrow i hi
      obtain ⟨rbi', basei', t1', t2'⟩ := jr i' hi'
      obtain ⟨capi', exi', blki', p1', p2', p3', p4'⟩ := hrow i' hi'
      rw [t2] at h3
      rw [t2'] at h4
      simp at h3 h4
      obtain ⟨rfl, _⟩ := h3
      obtain ⟨rfl, _⟩ := h4
      rw [hinj i i' hi hi' (hr.inj _ _ _ _ _ _ _ p2 p2' t1 t1')]

theorem outerB_nr (b : Nat) (R : List (List SV)) : noRowL (outerB b R) = true := by
  unfold outerB
  generalize List.range R.length = l
  induction l with
  | nil => rfl
  | cons a l ih => simp only [List.map_cons, noRowL, ih, Bool.and_true, noRow]
theorem mat_nr {b n : Nat} {R : List (List SV)} (h : ∀ row ∈ R, row.all isVal = true) : nrHeap (hx [.mat b R] n) := by
  intro x blk hb
  rw [hx_map, xmap] at hb
  split at hb
  · rename_i hr
    rw [matMap] at hb
    split at hb
    · simp at hb; subst hb; exact outerB_nr b R
    · rename_i h0
      simp at hb; subst hb
      exact isVal_noRow (h _ (rowAt_mem (by omega)))
  · simp [xmap] at hb
theorem MatRes.vals {R : List (List SV)} {r : SV} {H : Heap} (h : MatRes R r H) : ∀ row ∈ R, row.all isVal = true := by
  obtain ⟨b, off, cap, ex, blk, _, _, _, h5, _⟩ := h
  exact h5
variable {P : Program}
theorem FCall.mat {f : FuncId} {args : List SV} {R : List (List SV)} (h : FCall P f args (MatRes R)) : FCall P f args (MatOne R) := by
  refine ⟨h.1, fun w vs hl ht => (h.2 w vs hl ht).mono ?_⟩
  rintro e w' ⟨v, r, j, H, h1, h2, h3, h4, h5, h6, h7, h8⟩
  obtain ⟨j', r', v', o'⟩ := mat_rel h8 h3 h4
  exact ⟨v, _, j', _, h1, h2, r', v', fun k hk => h5 k (o' k hk), rfl, mat_nr h8.vals, rfl, rfl⟩
theorem merge_mat {j : JMap} {H : Heap} {w : World} (r : Rel j H w) {R : List (List SV)} (h : ∀ row ∈ R, row.all isVal = true) : H.merge (hx [.mat 0 R] (R.length + 1)) = H.pushM R := by
  refine Heap.ext' (fun x => ?_) (by simp only [Heap.merge, Heap.pushM, hx]; omega)
  simp only [Heap.merge, Heap.pushM, hx_map, xmap]
  by_cases h1 : x < H.nb
  · rw [if_pos h1, if_neg (by omega)]
  · rw [if_neg h1]
    by_cases h2 : x ≤ H.nb + R.length
    · rw [if_pos (by omega), if_pos (by omega), matMap, matMap]
      by_cases h3 : x = H.nb
      · subst h3
        rw [if_pos (by omega), if_pos rfl]
        simp only [Option.map_some]
        congr 2
        unfold outerB
        generalize List.range R.length = l
        induction l with
        | nil => rfl
        | cons a l ih =>
          simp only [List.map_cons, shiftL, ih, shift]
          congr 2; omega
      · rw [if_neg (by omega), if_neg h3]
        simp only [Option.map_some]
        have e : x - H.nb - 0 - 1 = x - H.nb - 1 := by omega
        rw [e, isVal_shift (h _ (rowAt_mem (by omega)))]
    · rw [if_neg (by omega), if_neg (by omega), r.fresh (by omega)]
      rfl
/-- A call that gives back a matrix in memory of its own. -/
theorem FCall.callMat {f : FuncId} {args args' : List SV} {R : List (List SV)} {H : Heap} {K : SV → Heap → Prop} (h : FCall P f args' (MatOne R)) (hc : ∀ row ∈ R, row.all isVal = true) (fu : Nat) (hv : viewL H fu args = some args')
    (k : K (.own H.nb 0 R.length R.length 1 false) (H.pushM R)) : @CallX P f args H ⟨K⟩ := by
  refine ⟨h.1, fun j w vs r hl => ((h.callS fu hv).2 j w vs r hl).mono ?_⟩
  rintro e w' ⟨r1, v, j', H', h1, h2, h3, h4, r0, H0, ⟨rfl, rfl⟩, rfl, rfl⟩
  refine ⟨_, v, j', _, h1, h2, h3, h4, ?_⟩
  rw [merge_mat r hc]
  simpa only [shift, Nat.zero_add] using k
theorem mi_vals (M : List (List Int)) : ∀ row ∈ mi M, row.all isVal = true := by
  intro row h
  obtain ⟨l, _, rfl⟩ := List.mem_map.1 h
  exact ints_vals l
theorem mb_vals (M : List (List Bool)) : ∀ row ∈ mb M, row.all isVal = true := by
  intro row h
  obtain ⟨l, _, rfl⟩ := List.mem_map.1 h
  exact bools_vals l

/-! ### Seen as contents -/
theorem view_mat {H : Heap} {b n f cap : Nat} {ex : Bool} {R : List (List SV)} (h : EntIn H (.mat b R)) (hn : n = R.length) (hv : ∀ i, i < R.length → viewL H f (rowAt R i) = some (rowAt R i)) :
    view H (f + 2) (.own b 0 n cap 1 ex) = some (.row n false (R.map fun r => .row r.length false r)) := by
  subst hn
  have h0 : H.map b = some ⟨outerB b R, false⟩ := by rw [h b (by omega) (by omega), matMap, if_pos rfl]
  simp only [view, h0, Nat.mul_one, List.drop_zero, outerB_length, Nat.zero_add, Nat.le_refl, if_true]
  have e : (outerB b R).take R.length = outerB b R := List.take_of_length_le (by rw [outerB_length]; exact Nat.le_refl _)
  rw [e, outerB, viewL_fn (h := fun i => .row (rowAt R i).length false (rowAt R i)) _ (fun i hi => ?_)]
  · have : (List.range R.length).map (fun i => SV.row (rowAt R i).length false (rowAt R i)) = R.map fun r => .row r.length false r := by
      apply List.ext_getElem?
      intro i
      simp only [List.getElem?_map]
      by_cases hi : i < R.length
      · rw [List.getElem?_range hi, List.getElem?_eq_getElem hi, ← rowAt_length hi]; rfl
      · have : (List.range R.length)[i]? = none := by simp; omega
        rw [this, List.getElem?_eq_none (by omega : R.length ≤ i)]; rfl
    rw [this]
  · have hi' : i < R.length := by simpa using hi
    have hm : H.map (b + 1 + i) = some ⟨rowAt R i, false⟩ := by
      rw [h (b + 1 + i) (by omega) (by omega), matMap, if_neg (by omega)]
      congr 3; omega
    simp only [view, hm, Nat.mul_one, List.drop_zero, Nat.zero_add, Nat.le_refl, if_true, List.take_length, hv i hi']
theorem view_mi {H : Heap} {b n f cap : Nat} {ex : Bool} {M : List (List Int)} (h : EntIn H (.mat b (mi M))) (hn : n = M.length) : view H (f + 2) (.own b 0 n cap 1 ex) = some (rr M) := by
  rw [view_mat h (by rw [hn, mi_length]) (fun i hi => by rw [mi_row (by rwa [mi_length] at hi)]; exact viewL_ints _ _ _)]
  subst hn
  simp only [rr, rows, mi, List.map_map]
  congr 2
  exact List.map_congr_left (fun r _ => by simp [ri, ints_length])
theorem view_mb {H : Heap} {b n f cap : Nat} {ex : Bool} {M : List (List Bool)} (h : EntIn H (.mat b (mb M))) (hn : n = M.length) : view H (f + 2) (.own b 0 n cap 1 ex) = some (rb M) := by
  rw [view_mat h (by rw [hn, mb_length]) (fun i hi => by rw [mb_row (by rwa [mb_length] at hi)]; exact viewL_bools _ _ _)]
  subst hn
  simp only [rb, rowsB, mb, List.map_map]
  congr 2
  exact List.map_congr_left (fun r _ => by simp [bools_length])
theorem MatOne.viewI {M : List (List Int)} {r : SV} {H : Heap} (h : MatOne (mi M) r H) : view H 2 r = some (rr M) := by
  obtain ⟨rfl, rfl⟩ := h
  exact view_mi EntIn.self (mi_length M)
theorem MatOne.viewB {M : List (List Bool)} {r : SV} {H : Heap} (h : MatOne (mb M) r H) : view H 2 r = some (rb M) := by
  obtain ⟨rfl, rfl⟩ := h
  exact view_mb EntIn.self (mb_length M)
theorem rows_res {b nb : Nat} {fl : Bool} {nr : List (Nat × List SV)} {H : Heap} (h : NrOk b nb nr) (hv : ∀ p ∈ nr, p.2.all isVal = true) (h1 : H.map b = some ⟨outerN fl nr, false⟩) (h2 : EntIn H (.rows fl nr)) : MatRes (nr.map (·.2)) (.own b 0 nr.length nr.length 1 false) H := by
  have hl : (nr.map (·.2)).length = nr.length := by simp
  refine ⟨b, 0, nr.length, false, _, by rw [hl], h1, by rw [hl, outerN_length]; omega, ?_, fun i => (nr.getD i (0, [])).1, fun _ => 0, ?_, ?_, ?_⟩
  · intro row hr
    obtain ⟨p, hp, rfl⟩ := List.mem_map.1 hr
    exact hv p hp
  · intro i i' hi hi' he
    rw [hl] at hi hi'
    have hn := h.2.2
    have hi2 : i < (nr.map (·.1)).length := by simpa using hi
    have hi2' : i' < (nr.map (·.1)).length := by simpa using hi'
    have e1 : (nr.getD i (0, [])).1 = (nr.map (·.1))[i] := by simp [hi]
    have e2 : (nr.getD i' (0, [])).1 = (nr.map (·.1))[i'] := by simp [hi']
    simp only [] at he
    rw [e1, e2] at he
    have hpw := List.pairwise_iff_getElem.1 hn
    rcases Nat.lt_trichotomy i i' with g | g | g
    · exact absurd he (hpw i i' hi2 hi2' g)
    · exact g
    · exact absurd he.symm (hpw i' i hi2' hi2 g)
  · intro i hi
    rw [hl] at hi
    have : nr.getD i (0, []) ∈ nr := by simp [hi]
    exact (h.2.1 _ this).2
  · intro i hi
    rw [hl] at hi
    have hm : nr.getD i (0, []) ∈ nr := by simp [hi]
    have hr : rowAt (nr.map (·.2)) i = (nr.getD i (0, [])).2 := by simp [rowAt, hi]
    refine ⟨(rowAt (nr.map (·.2)) i).length, fl, ⟨(nr.getD i (0, [])).2, fl⟩, ?_, h2 _ hm, ?_, ?_⟩
    · rw [hr]; simp [outerN, hi]
    · rw [hr]; simp
    · rw [hr]; simp
/-- At a body's end: rows under names of any kind. -/
theorem fin_rows {b nb : Nat} {fl : Bool} {nr : List (Nat × List SV)} {H : Heap} {R : List (List SV)} (h : NrOk b nb nr) (hv : ∀ p ∈ nr, p.2.all isVal = true) (h1 : H.map b = some ⟨outerN fl nr, false⟩) (h2 : EntIn H (.rows fl nr)) (hR : R = nr.map (·.2)) :
    Fin (MatRes R) (.own b 0 nr.length nr.length 1 false) H := by
  subst hR
  have hne : ∀ p ∈ nr, p.1 ≠ b := fun p hp => (h.2.1 p hp).2
  refine ⟨hx [.blk b ⟨outerN fl nr, false⟩, .rows fl nr] H.nb, ⟨rfl, fun x => ?_⟩, rfl, ?_, rows_res h hv (by rw [hx_map, xmap, if_pos rfl]) ((EntIn.selfR h.2.2).skipR hne)⟩
  · rw [hx_map, xmap]
    by_cases hx : x = b
    · subst hx; rw [if_pos rfl]; exact .inr h1.symm
    · rw [if_neg hx, xmap]
      split
      · rename_i r hr
        exact .inr (h2 _ (nrFind_mem hr)).symm
      · exact .inl rfl
  · intro x blk hb
    rw [hx_map, xmap] at hb
    split at hb
    · simp at hb; subst hb
      show noRowL (outerN fl nr) = true
      unfold outerN
      clear h hv h1 h2 hne
      induction nr with
      | nil => rfl
      | cons a l ih => simp only [List.map_cons, noRowL, ih, Bool.and_true, noRow]
    · rw [xmap] at hb
      split at hb
      · rename_i r hr
        simp at hb; subst hb
        exact isVal_noRow (hv _ (nrFind_mem hr))
      · simp [xmap] at hb
attribute [go_sem] hx_del xdel_blk xdel_rows xdel_nil hx_nb hx_map hx_push hx_set hx_pushM hp_pushM toE_nil toE_cons xmap_blk xmap_nil xmap_mat xset_blk xset_nil mi_length mb_length outerB_length bools_length
end Go.Sh

/-
  Contracts: matrices copied into memory of their own, marked, read back.
-/
namespace Go.Sh
set_option linter.unusedSimpArgs false
set_option linter.unusedVariables false
open Go Go.Proofs
variable {P : Program}

theorem HS_res (M : List (List Int)) : MatRes (mi M) (.own 0 0 M.length M.length 1 true) (HS M M.length) := by
  have hl := mi_length M
  refine ⟨0, 0, M.length, true, _, by rw [hl], HS_map M _, by rw [hl, outer_length]; omega, mi_vals _, fun i => i + 1, fun _ => 0, fun i i' _ _ h => by simpa using h, fun i _ => by simp, fun i hi => ?_⟩
  rw [hl] at hi
  have hr : rowAt (mi M) i = ints (mrow M i) := mi_row hi
  refine ⟨(mrow M i).length, false, ⟨ints (mrow M i), false⟩, ?_, ?_, ?_, ?_⟩
  · rw [hr, Nat.zero_add, ints_length]
    simp only [outer, List.getElem?_map]
    rw [List.getElem?_range hi]
    simp only [Option.map_some]
    rw [if_pos hi]
  · simp only [HS]
    rw [if_neg (by omega), if_pos (by omega)]
    simp
  · rw [hr, List.drop_zero, List.take_length]
  · rw [hr]; simp
theorem CallS.sub {f : FuncId} {args : List SV} {H : Heap} {Q Q' : SV → Heap → Prop} (h : CallS P f args H Q) (hq : ∀ r H', Q r H' → ∃ H2, Sub H2 H' ∧ Q' r H2) : CallS P f args H Q' := by
  refine ⟨h.1, fun j w vs r hl => (h.2 j w vs r hl).mono ?_⟩
  rintro e w' ⟨r, v, j', H', h1, h2, h3, h4, h5⟩
  obtain ⟨H2, hs, hq2⟩ := hq r H' h5
  have hsub : ∀ k, OwnR j' H2 k → OwnR j' H' k := by
    rintro k ⟨b, blk, base, g1, g2⟩
    refine ⟨b, blk, base, ?_, g2⟩
    rcases hs.map b with e | e
    · rw [e] at g1; simp at g1
    · rw [← e]; exact g1
  refine ⟨r, v, j', H2, h1, h2.sub hs, VRel.tr (Tr.weaken w' hsub) (fun _ _ h => h) r v h3, ?_, hq2⟩
  exact ⟨h4.os, h4.tape, h4.output, h4.size, h4.keep, h4.sizes, h4.jle, by rw [hs.nb]; exact h4.nble, fun k o => h4.own k (hsub k o)⟩

def Heap.cutR (H : Heap) (a c : Nat) : Heap := ⟨fun x => if a ≤ x ∧ x ≤ c then none else H.map x, H.nb⟩
def consE (e : Ent) (H : Heap) : Heap := match e with
  | .blk k v => ⟨fun x => if x = k then some v else H.map x, H.nb⟩
  | .mat b R => ⟨fun x => if b ≤ x ∧ x ≤ b + R.length then matMap b R x else H.map x, H.nb⟩
  | .rows fl nr => ⟨fun x => match nrFind nr x with | some r => some ⟨r, fl⟩ | none => H.map x, H.nb⟩
  | .cut b => ⟨fun x => if x = b then none else H.map x, H.nb⟩
theorem consE_hx (e : Ent) (l : List Ent) (n : Nat) : consE e (hx l n) = hx (e :: l) n := by cases e <;> rfl
theorem cutR_nil (n a c : Nat) : (hx [] n).cutR a c = hx [] n := by
  refine Heap.ext' (fun x => ?_) rfl
  simp only [Heap.cutR, hx, xmap]
  split <;> rfl
theorem cutR_blk {k n a c : Nat} {v : Blk} {l : List Ent} (h : k < a ∨ c < k) : (hx (.blk k v :: l) n).cutR a c = consE (.blk k v) ((hx l n).cutR a c) := by
  refine Heap.ext' (fun x => ?_) rfl
  simp only [Heap.cutR, hx, xmap, consE]
  by_cases h1 : x = k
  · subst h1
    rw [if_neg (by omega), if_pos rfl, if_pos rfl]
  · rw [if_neg h1, if_neg h1]
theorem cutR_same {b n c : Nat} {M : List (List Int)} {l : List Ent} (h : c = b + M.length) : (hx (.mat b (mi M) :: l) n).cutR b c = (hx l n).cutR b c := by
  subst h
  refine Heap.ext' (fun x => ?_) rfl
  simp only [Heap.cutR, hx, xmap, mi_length]
  by_cases h1 : b ≤ x ∧ x ≤ b + M.length
  · rw [if_pos h1, if_pos h1]
  · rw [if_neg h1, if_neg h1, if_neg h1]
theorem cutR_other {b n a c : Nat} {M : List (List Int)} {l : List Ent} (h : c < b ∨ b + M.length < a) : (hx (.mat b (mi M) :: l) n).cutR a c = consE (.mat b (mi M)) ((hx l n).cutR a c) := by
  refine Heap.ext' (fun x => ?_) rfl
  simp only [Heap.cutR, hx, xmap, consE, mi_length]
  by_cases h1 : b ≤ x ∧ x ≤ b + M.length
  · rw [if_neg (by omega), if_pos h1, if_pos h1]
  · rw [if_neg h1, if_neg h1]
theorem cutR_map {H : Heap} {a c x : Nat} (h : x < a ∨ c < x) : (H.cutR a c).map x = H.map x := by
  simp only [Heap.cutR]; rw [if_neg (by omega)]

theorem fin_mat {b n cap : Nat} {ex : Bool} {R : List (List SV)} {H : Heap} (h : EntIn H (.mat b R)) (hv : ∀ row ∈ R, row.all isVal = true) (hn : n = R.length) : Fin (MatRes R) (.own b 0 n cap 1 ex) H := by
  subst hn
  refine ⟨hx [.mat b R] H.nb, ⟨rfl, fun x => ?_⟩, rfl, mat_nr hv, b, 0, cap, ex, _, rfl, by rw [hx_map, xmap_mat], by rw [outerB_length]; omega, hv, fun i => b + 1 + i, fun _ => 0, fun i i' _ _ e => by have e : b + 1 + i = b + 1 + i' := e; omega, fun i _ => by show b + 1 + i ≠ b; omega, fun i hi => ?_⟩
  · rw [hx_map, xmap]
    by_cases hr : b ≤ x ∧ x ≤ b + R.length
    · rw [if_pos hr]; exact .inr (h x hr.1 hr.2).symm
    · rw [if_neg hr]; exact .inl rfl
  · refine ⟨(rowAt R i).length, false, ⟨rowAt R i, false⟩, ?_, ?_, ?_, ?_⟩
    · rw [Nat.zero_add, outerB_get hi]
    · show (hx [.mat b R] H.nb).map (b + 1 + i) = _
      rw [hx_map, xmap, if_pos (by omega), matMap, if_neg (by omega)]
      congr 3; omega
    · simp
    · simp
attribute [go_sem] consE_hx cutR_nil
end Go.Sh

/-
  Contracts: matrices marked, and what they hold then.
-/
namespace Go.Sh
set_option linter.unusedSimpArgs false
set_option linter.unusedVariables false
open Go Go.Proofs
variable {P : Program}

def marksM (M : List (List Int)) (k : Int) : List (List Int) := (List.range M.length).map fun i => marks (mrow M i).length (k + msum M i)
theorem marksM_length (M : List (List Int)) (k : Int) : (marksM M k).length = M.length := by simp [marksM]
theorem marksM_row {M : List (List Int)} {k : Int} {i : Nat} (h : i < M.length) : mrow (marksM M k) i = marks (mrow M i).length (k + msum M i) := by simp [mrow, marksM, h]
theorem outerB_eq {b : Nat} {R S : List (List SV)} (h : R.length = S.length) (g : ∀ i, i < R.length → (rowAt R i).length = (rowAt S i).length) : outerB b R = outerB b S := by
  unfold outerB
  rw [← h]
  refine List.map_congr_left (fun i hi => ?_)
  rw [g i (by simpa using hi)]
theorem marksM_outer (b : Nat) (M : List (List Int)) (k : Int) : outerB b (mi (marksM M k)) = outerB b (mi M) := by
  refine outerB_eq (by rw [mi_length, mi_length, marksM_length]) fun i hi => ?_
  rw [mi_length, marksM_length] at hi
  rw [mi_row (by rw [marksM_length]; exact hi), mi_row hi, ints_length, ints_length, marksM_row hi, marks_length]
def Heap.mkd (H : Heap) (b : Nat) (M : List (List Int)) (k : Int) (i : Nat) : Heap := ⟨fun x => if b + 1 ≤ x ∧ x ≤ b + i then some ⟨ints (mrow (marksM M k) (x - b - 1)), false⟩ else H.map x, H.nb⟩
theorem mkd_zero (H : Heap) (b : Nat) (M : List (List Int)) (k : Int) : H.mkd b M k 0 = H := Heap.ext' (fun x => by simp only [Heap.mkd]; rw [if_neg (by omega)]) rfl
theorem mkd_set {H : Heap} {b : Nat} {M : List (List Int)} {k : Int} {i : Nat} (h : i < M.length) : (H.mkd b M k i).set (b + 1 + i) (some ⟨ints (marks (mrow M i).length (k + msum M i)), false⟩) = H.mkd b M k (i + 1) := by
  refine Heap.ext' (fun x => ?_) rfl
  simp only [Heap.mkd, Heap.set]
  by_cases h1 : x = b + 1 + i
  · subst h1
    have e : b + 1 + i - b - 1 = i := by omega
    rw [if_pos rfl, if_pos (by omega), e, marksM_row h]
  · rw [if_neg h1]
    by_cases h2 : b + 1 ≤ x ∧ x ≤ b + i
    · rw [if_pos h2, if_pos (by omega)]
    · rw [if_neg h2, if_neg (by omega)]
theorem mkd_map {H : Heap} {b : Nat} {M : List (List Int)} {k : Int} {i x : Nat} (h : x ≤ b ∨ b + i < x) : (H.mkd b M k i).map x = H.map x := by
  simp only [Heap.mkd]; rw [if_neg (by omega)]

theorem view_nilM {H : Heap} {f : Nat} : view H f (.val (.slice none 0 0)) = some (rr []) := view_nil
theorem view_rowM {H : Heap} {f n : Nat} {ex : Bool} {M : List (List Int)} (hn : n = M.length) : view H f (.row n ex (rows M)) = some (rr M) := by subst hn; simp only [view, rr]
end Go.Sh

/-
  Blocks of a partition: plain. Rows under names of their own, changed one by one.
-/
namespace Go.Sh
set_option linter.unusedSimpArgs false
set_option linter.unusedVariables false
open Go Go.Proofs

def blkTo (L : List Int) : Nat → List (List Int)
  | 0 => []
  | k + 1 => if L.getD k 0 = (blkTo L k).length then blkTo L k ++ [[(k : Int)]] else (blkTo L k).set (L.getD k 0).toNat ((blkTo L k).getD (L.getD k 0).toNat [] ++ [(k : Int)])
theorem blkTo_new {L : List Int} {k : Nat} (h : L.getD k 0 = (blkTo L k).length) : blkTo L (k + 1) = blkTo L k ++ [[(k : Int)]] := by rw [blkTo, if_pos h]
theorem blkTo_old {L : List Int} {k x : Nat} (hx : L.getD k 0 = x) (h : x < (blkTo L k).length) : blkTo L (k + 1) = (blkTo L k).set x (mrow (blkTo L k) x ++ [(k : Int)]) := by
  rw [blkTo, if_neg (by omega), hx, Int.toNat_natCast]; rfl
def nxt : List Int → Int → Nat → Int
  | _, n, 0 => n
  | [], n, _ + 1 => n
  | x :: L, n, k + 1 => nxt L (max n (x + 1)) k
theorem nxt_succ : ∀ (L : List Int) (n : Int) (k : Nat), k < L.length → nxt L n (k + 1) = max (nxt L n k) (L.getD k 0 + 1)
  | [], n, k, h => by simp at h
  | x :: L, n, 0, h => by cases L <;> simp [nxt]
  | x :: L, n, k + 1, h => by
    have := nxt_succ L (max n (x + 1)) k (by simpa using h)
    simpa [nxt] using this
theorem okP_nxt : ∀ (L : List Int) (n : Int), okP n L = true → ∀ k, k < L.length → 0 ≤ L.getD k 0 ∧ L.getD k 0 ≤ nxt L n k
  | [], n, _, k, h => by simp at h
  | x :: L, n, ho, 0, h => by
    rw [okP, Bool.and_eq_true] at ho
    have := inR_of ho.1
    simpa [nxt] using this
  | x :: L, n, ho, k + 1, h => by
    rw [okP, Bool.and_eq_true] at ho
    have := okP_nxt L (max n (x + 1)) ho.2 k (by simpa using h)
    simpa [nxt] using this
theorem blkTo_length {L : List Int} (h : okP 0 L = true) : ∀ k, k ≤ L.length → ((blkTo L k).length : Int) = nxt L 0 k
  | 0, _ => by simp [blkTo, nxt]
  | k + 1, hk => by
    have ih := blkTo_length h k (by omega)
    have hb := okP_nxt L 0 h k (by omega)
    rw [nxt_succ L 0 k (by omega)]
    by_cases e : L.getD k 0 = (blkTo L k).length
    · rw [blkTo_new e, List.length_append, List.length_singleton]; omega
    · rw [blkTo, if_neg e, List.length_set]; omega
theorem blk_at {L : List Int} (h : isPart L = true) {k : Nat} (hk : k < L.length) : ∃ x : Nat, L.getD k 0 = x ∧ x ≤ (blkTo L k).length := by
  rw [isPart, Bool.and_eq_true] at h
  have h1 := okP_nxt L 0 h.1 k hk
  have h2 := blkTo_length h.1 k (by omega)
  exact ⟨(L.getD k 0).toNat, by omega, by omega⟩
theorem blkTo_le (L : List Int) : ∀ k, (blkTo L k).length ≤ k
  | 0 => by simp [blkTo]
  | k + 1 => by
    have := blkTo_le L k
    rw [blkTo]
    split
    · simp; omega
    · simp; omega
theorem blkTo_row (L : List Int) : ∀ k i, (mrow (blkTo L k) i).length ≤ k
  | 0, i => by simp [blkTo, mrow]
  | k + 1, i => by
    have ih := blkTo_row L k
    rw [blkTo]
    split
    · simp only [mrow, List.getD_eq_getElem?_getD, List.getElem?_append]
      split
      · have := ih i
        simp only [mrow, List.getD_eq_getElem?_getD] at this; omega
      · cases h : i - (blkTo L k).length with
        | zero => simp
        | succ m => simp
    · simp only [mrow, List.getD_eq_getElem?_getD, List.getElem?_set]
      split
      · split
        · have := ih (L.getD k 0).toNat
          simp only [mrow, List.getD_eq_getElem?_getD] at this
          simp; omega
        · simp
      · have := ih i
        simp only [mrow, List.getD_eq_getElem?_getD] at this; omega
/-- The items of each block. -/
def blocksOf (L : List Int) : List (List Int) := if isPart L = true then blkTo L L.length else []
theorem blocksOf_t {L : List Int} (h : isPart L = true) : blocksOf L = blkTo L L.length := by rw [blocksOf, if_pos h]
theorem blocksOf_f {L : List Int} (h : isPart L = false) : blocksOf L = [] := by rw [blocksOf, if_neg (by rw [h]; simp)]

theorem mi_snoc (M : List (List Int)) (r : List Int) : mi (M ++ [r]) = mi M ++ [ints r] := by simp [mi]
theorem mi_set (M : List (List Int)) (x : Nat) (r : List Int) : mi (M.set x r) = (mi M).set x (ints r) := by simp [mi, List.map_set]
/-! ### Rows, one by one -/
theorem xdel_cut (c : Nat) (l : List Ent) (b : Nat) : xdel (.cut c :: l) b = .cut b :: .cut c :: l := rfl
theorem xmap_cut (b : Nat) (l : List Ent) (x : Nat) : xmap (.cut b :: l) x = if x = b then none else xmap l x := rfl
def nrAt (nr : List (Nat × List SV)) (x : Nat) : Nat × List SV := nr.getD x (0, [])
theorem nrAt_mem {nr : List (Nat × List SV)} {x : Nat} (h : x < nr.length) : nrAt nr x ∈ nr := by simp [nrAt, h]
theorem outerN_get {fl : Bool} {nr : List (Nat × List SV)} {x : Nat} (h : x < nr.length) : (outerN fl nr)[x]? = some (.own (nrAt nr x).1 0 (nrAt nr x).2.length (nrAt nr x).2.length 1 fl) := by simp [outerN, nrAt, h]
theorem outerN_set {fl : Bool} {nr : List (Nat × List SV)} {x nm n : Nat} {r : List SV} (hn : n = r.length) : (outerN fl nr).set x (.own nm 0 n n 1 fl) = outerN fl (nr.set x (nm, r)) := by subst hn; simp [outerN, List.map_set]
theorem xmap_rowsAt {fl : Bool} {nr : List (Nat × List SV)} {l : List Ent} {x : Nat} (h : (nr.map (·.1)).Nodup) (hx : x < nr.length) : xmap (.rows fl nr :: l) (nrAt nr x).1 = some ⟨(nrAt nr x).2, fl⟩ := by
  rw [xmap, nrFind_get h (nrAt_mem hx)]
theorem nr_ne {nr : List (Nat × List SV)} (h : (nr.map (·.1)).Nodup) {i j : Nat} (hi : i < nr.length) (hj : j < nr.length) (hne : i ≠ j) : (nrAt nr i).1 ≠ (nrAt nr j).1 := by
  have hpw := List.pairwise_iff_getElem.1 h
  have e1 : (nrAt nr i).1 = (nr.map (·.1))[i]'(by simpa using hi) := by simp [nrAt, hi]
  have e2 : (nrAt nr j).1 = (nr.map (·.1))[j]'(by simpa using hj) := by simp [nrAt, hj]
  rw [e1, e2]
  rcases Nat.lt_or_gt_of_ne hne with g | g
  · exact hpw i j _ _ g
  · exact (hpw j i _ _ g).symm
theorem mem_setN {nr : List (Nat × List SV)} {x : Nat} {q p : Nat × List SV} (h : p ∈ nr.set x q) : p = q ∨ ∃ j, j < nr.length ∧ j ≠ x ∧ p = nrAt nr j := by
  obtain ⟨j, hj, rfl⟩ := List.getElem_of_mem h
  rw [List.length_set] at hj
  rw [List.getElem_set]
  split
  · exact .inl rfl
  · rename_i hne
    exact .inr ⟨j, hj, fun e => hne e.symm, by simp [nrAt, hj]⟩
theorem NrOk.set {b nb nb' nm x : Nat} {r : List SV} {nr : List (Nat × List SV)} (h : NrOk b nb nr) (h1 : nb ≤ nm) (h2 : nm < nb') : NrOk b nb' (nr.set x (nm, r)) := by
  have hb := h.1
  refine ⟨by omega, fun p hp => ?_, ?_⟩
  · rcases mem_setN hp with rfl | ⟨j, hj, _, rfl⟩
    · exact ⟨h2, by simp only []; omega⟩
    · have := h.2.1 _ (nrAt_mem hj)
      exact ⟨by omega, this.2⟩
  · rw [List.map_set]
    refine List.pairwise_iff_getElem.2 fun i j hi hj hij => ?_
    simp only [List.length_set, List.length_map] at hi hj
    rw [List.getElem_set, List.getElem_set]
    have hlt : ∀ k (hk : k < nr.length), (nr.map (·.1))[k]'(by simpa using hk) < nb := fun k hk => by
      have := (h.2.1 _ (List.getElem_mem hk)).1
      simpa using this
    split
    · rw [if_neg (by omega)]
      have := hlt j hj
      simp only []; omega
    · split
      · have := hlt i hi
        simp only []; omega
      · exact List.pairwise_iff_getElem.1 h.2.2 i j _ _ hij
theorem EntIn.setN {H : Heap} {fl : Bool} {nr : List (Nat × List SV)} {x nm : Nat} {r : List SV} (h : ∀ j, j < nr.length → j ≠ x → H.map (nrAt nr j).1 = some ⟨(nrAt nr j).2, fl⟩) (h2 : H.map nm = some ⟨r, fl⟩) : EntIn H (.rows fl (nr.set x (nm, r))) := by
  intro p hp
  rcases mem_setN hp with rfl | ⟨j, hj, hne, rfl⟩
  · exact h2
  · exact h j hj hne
theorem nr_row {nr : List (Nat × List SV)} {M : List (List Int)} (h : nr.map (·.2) = mi M) {x : Nat} (hx : x < nr.length) : (nrAt nr x).2 = ints (mrow M x) ∧ x < M.length := by
  have hl : nr.length = M.length := by have := congrArg List.length h; simpa [mi] using this
  have e : (nr.map (·.2))[x]? = (mi M)[x]? := by rw [h]
  have hx2 : x < M.length := by omega
  refine ⟨?_, hx2⟩
  simp [mi, hx, hx2] at e
  simp [nrAt, hx, mrow, hx2, e]
theorem nr_len {nr : List (Nat × List SV)} {M : List (List Int)} (h : nr.map (·.2) = mi M) : nr.length = M.length := by have := congrArg List.length h; simpa [mi] using this
end Go.Sh

/-
  Partitions as text: plain.
-/
namespace Go.Sh
set_option linter.unusedSimpArgs false
set_option linter.unusedVariables false
open Go Go.Proofs

/-! ### Pieces between a byte -/
def cutL (c : UInt8) : List UInt8 → List (List UInt8)
  | [] => [[]]
  | x :: s => if x = c then [] :: cutL c s else match cutL c s with
    | [] => [[x]]
    | p :: ps => (x :: p) :: ps
theorem cutL_ne (c : UInt8) : ∀ s, ∃ p ps, cutL c s = p :: ps
  | [] => ⟨_, _, rfl⟩
  | x :: s => by
    rw [cutL]
    split
    · exact ⟨_, _, rfl⟩
    · obtain ⟨p, ps, h⟩ := cutL_ne c s
      rw [h]; exact ⟨_, _, rfl⟩
theorem cutL_none {c : UInt8} : ∀ {s : List UInt8}, c ∉ s → cutL c s = [s]
  | [], _ => rfl
  | x :: s, h => by
    have hx : x ≠ c := fun e => h (by simp [e])
    rw [cutL, if_neg hx, cutL_none (fun hm => h (by simp [hm]))]
theorem cutL_app {c : UInt8} : ∀ {p s : List UInt8}, c ∉ p → cutL c (p ++ c :: s) = p :: cutL c s
  | [], s, _ => by rw [List.nil_append, cutL, if_pos rfl]
  | x :: p, s, h => by
    have hx : x ≠ c := fun e => h (by simp [e])
    rw [List.cons_append, cutL, if_neg hx, cutL_app (p := p) (fun hm => h (by simp [hm]))]
theorem cutL_first {c : UInt8} {s : List UInt8} {m : Nat} (hm : m < s.length) (h : s.getD m 0 = c) (hn : ∀ k, k < m → s.getD k 0 ≠ c) : cutL c s = s.take m :: cutL c (s.drop (m + 1)) := by
  have e : s = s.take m ++ c :: s.drop (m + 1) := by
    have h1 : s.drop m = c :: s.drop (m + 1) := by
      rw [List.drop_eq_getElem_cons hm]; congr 1; simpa [hm] using h
    rw [← h1, List.take_append_drop]
  have hnot : c ∉ s.take m := by
    intro hmem
    obtain ⟨k, hk, e⟩ := List.getElem_of_mem hmem
    have hk' : k < m := by rw [List.length_take] at hk; omega
    refine hn k hk' ?_
    rw [List.getElem_take] at e
    simp [show k < s.length by omega, e]
  conv => lhs; rw [e]
  rw [cutL_app hnot]
theorem cutL_last {c : UInt8} {s : List UInt8} (hn : ∀ k, k < s.length → s.getD k 0 ≠ c) : cutL c s = [s] := by
  refine cutL_none fun hmem => ?_
  obtain ⟨k, hk, e⟩ := List.getElem_of_mem hmem
  exact hn k hk (by simp [hk, e])
theorem cutL_len (c : UInt8) : ∀ s : List UInt8, (cutL c s).length = s.count c + 1
  | [] => rfl
  | x :: s => by
    have ih := cutL_len c s
    rw [cutL]
    split
    · rename_i h; subst h; simp [ih]
    · rename_i h
      obtain ⟨p, ps, e⟩ := cutL_ne c s
      rw [e] at ih ⊢
      rw [List.count_cons_of_ne h]
      simpa using ih
theorem cutL_join {c : UInt8} : ∀ {p : List UInt8} {ps : List (List UInt8)}, (∀ q ∈ p :: ps, c ∉ q) → cutL c (Lib.join (p :: ps) [c]) = p :: ps
  | p, [], h => by rw [Lib.join_one, cutL_none (h p (by simp))]
  | p, q :: ps, h => by
    have e : Lib.join (p :: q :: ps) [c] = p ++ c :: Lib.join (q :: ps) [c] := by
      rw [Lib.join_cons, Lib.join_cons]; simp [Lib.joinTail]
    rw [e, cutL_app (h p (by simp)), cutL_join (fun r hr => h r (List.mem_cons_of_mem _ hr))]

/-! ### The text of a partition -/
theorem itoa_small {x : Nat} (h : x < 10) : Lib.itoa (x : Int) = [UInt8.ofNat (48 + x)] := by
  rw [Lib.itoa, if_neg (by omega), Int.toNat_natCast, Lib.decDigits, dif_pos h]
def fmtB (b : List Int) : List UInt8 := Lib.join (b.map Lib.itoa) []
theorem join_nilsep : ∀ (xs : List (List UInt8)), Lib.join xs [] = xs.flatten
  | [] => rfl
  | x :: xs => by rw [Lib.join_cons]; simp [Lib.joinTail]
theorem fmtB_eq (b : List Int) : fmtB b = (b.map Lib.itoa).flatten := join_nilsep _
def fmtP (L : List Int) : List UInt8 := Lib.join ((blocksOf L).map fmtB) [124]
theorem fmtP_f {L : List Int} (h : isPart L = false) : fmtP L = [] := by rw [fmtP, blocksOf_f h]; rfl

theorem blkTo_lt {L : List Int} (h : isPart L = true) {k : Nat} (hk : k < L.length) : L.getD k 0 < (blkTo L (k + 1)).length := by
  obtain ⟨x, hx, hxl⟩ := blk_at h hk
  by_cases hnew : x = (blkTo L k).length
  · rw [blkTo_new (L := L) (k := k) (by rw [hx, hnew]), List.length_append, List.length_singleton]; omega
  · rw [blkTo_old hx (by omega), List.length_set]; omega
theorem blkTo_len_mono (L : List Int) {j : Nat} : ∀ {k : Nat}, j ≤ k → (blkTo L j).length ≤ (blkTo L k).length
  | 0, h => by
    obtain rfl : j = 0 := by omega
    exact Nat.le_refl _
  | k + 1, h => by
    rcases Nat.lt_or_ge k j with g | g
    · obtain rfl : j = k + 1 := by omega
      exact Nat.le_refl _
    · refine Nat.le_trans (blkTo_len_mono L g) ?_
      rw [blkTo]; split <;> simp
theorem blk_mem {L : List Int} (h : isPart L = true) : ∀ k, k ≤ L.length → ∀ i, i < (blkTo L k).length → (mrow (blkTo L k) i ≠ []) ∧ ∀ y, y ∈ mrow (blkTo L k) i ↔ ∃ x : Nat, x < k ∧ y = x ∧ L.getD x 0 = i
  | 0, _, i, hi => by simp [blkTo] at hi
  | k + 1, hk, i, hi => by
    have ih := blk_mem h k (by omega)
    obtain ⟨x, hx, hxl⟩ := blk_at h (k := k) (by omega)
    by_cases hnew : x = (blkTo L k).length
    · have e := blkTo_new (L := L) (k := k) (by rw [hx, hnew])
      rw [e] at hi ⊢
      rw [List.length_append, List.length_singleton] at hi
      by_cases hi2 : i < (blkTo L k).length
      · have er : mrow (blkTo L k ++ [[(k : Int)]]) i = mrow (blkTo L k) i := by simp [mrow, List.getElem?_append_left hi2]
        rw [er]
        obtain ⟨n1, n2⟩ := ih i hi2
        refine ⟨n1, fun y => (n2 y).trans ?_⟩
        constructor
        · rintro ⟨z, z1, z2, z3⟩; exact ⟨z, by omega, z2, z3⟩
        · rintro ⟨z, z1, z2, z3⟩
          rcases Nat.lt_succ_iff_lt_or_eq.mp z1 with g | rfl
          · exact ⟨z, g, z2, z3⟩
          · omega
      · obtain rfl : i = (blkTo L k).length := by omega
        have er : mrow (blkTo L k ++ [[(k : Int)]]) (blkTo L k).length = [(k : Int)] := by simp [mrow]
        rw [er]
        refine ⟨by simp, fun y => ?_⟩
        simp only [List.mem_singleton]
        constructor
        · rintro rfl; exact ⟨k, by omega, rfl, by rw [hx, hnew]⟩
        · rintro ⟨z, z1, rfl, z3⟩
          rcases Nat.lt_succ_iff_lt_or_eq.mp z1 with g | rfl
          · obtain ⟨z', hz', hzl⟩ := blk_at h (k := z) (by omega)
            have := blkTo_len_mono L (j := z + 1) (k := k) (by omega)
            have := blkTo_lt h (k := z) (by omega)
            omega
          · rfl
    · have hlt : x < (blkTo L k).length := by omega
      have e := blkTo_old hx hlt
      rw [e] at hi ⊢
      rw [List.length_set] at hi
      obtain ⟨n1, n2⟩ := ih i hi
      by_cases hix : i = x
      · subst hix
        have er : mrow ((blkTo L k).set i (mrow (blkTo L k) i ++ [(k : Int)])) i = mrow (blkTo L k) i ++ [(k : Int)] := by simp [mrow, hi]
        rw [er]
        refine ⟨by simp, fun y => ?_⟩
        rw [List.mem_append, List.mem_singleton, n2 y]
        constructor
        · rintro (⟨z, z1, z2, z3⟩ | rfl)
          · exact ⟨z, by omega, z2, z3⟩
          · exact ⟨k, by omega, rfl, hx⟩
        · rintro ⟨z, z1, z2, z3⟩
          rcases Nat.lt_succ_iff_lt_or_eq.mp z1 with g | rfl
          · exact .inl ⟨z, g, z2, z3⟩
          · exact .inr z2
      · have er : mrow ((blkTo L k).set x (mrow (blkTo L k) x ++ [(k : Int)])) i = mrow (blkTo L k) i := by simp [mrow, List.getElem?_set, Ne.symm hix]
        rw [er]
        refine ⟨n1, fun y => (n2 y).trans ?_⟩
        constructor
        · rintro ⟨z, z1, z2, z3⟩; exact ⟨z, by omega, z2, z3⟩
        · rintro ⟨z, z1, z2, z3⟩
          rcases Nat.lt_succ_iff_lt_or_eq.mp z1 with g | rfl
          · exact ⟨z, g, z2, z3⟩
          · omega

theorem sum_set : ∀ {M : List (List Int)} {x : Nat} {k : Int}, x < M.length → ((M.set x (mrow M x ++ [k])).map List.length).sum = (M.map List.length).sum + 1
  | [], x, k, h => by simp at h
  | r :: M, 0, k, _ => by simp [mrow]; omega
  | r :: M, x + 1, k, h => by
    have ih := sum_set (M := M) (x := x) (k := k) (by simpa using h)
    have e : mrow (r :: M) (x + 1) = mrow M x := rfl
    rw [e, List.set_cons_succ, List.map_cons, List.map_cons, List.sum_cons, List.sum_cons, ih]; omega
/-- All items of the blocks, counted. -/
theorem blk_sum {L : List Int} (h : isPart L = true) : ∀ k, k ≤ L.length → ((blkTo L k).map List.length).sum = k
  | 0, _ => by simp [blkTo]
  | k + 1, hk => by
    have ih := blk_sum h k (by omega)
    obtain ⟨x, hx, hxl⟩ := blk_at h (k := k) (by omega)
    by_cases hnew : x = (blkTo L k).length
    · rw [blkTo_new (L := L) (k := k) (by rw [hx, hnew])]; simp [ih]
    · have hlt : x < (blkTo L k).length := by omega
      rw [blkTo_old hx hlt, sum_set hlt, ih]
/-! ### What the reference reads -/
def sput (i : Int) (p : List Int × Int) (c : UInt8) : List Int × Int :=
  if 0 ≤ (c.toNat : Int) - 48 ∧ (c.toNat : Int) - 48 ≤ 7 then (p.1.set (c.toNat - 48) i, max p.2 ((c.toNat : Int) - 48 + 1)) else p
def spc : Int → List (List UInt8) → List Int × Int → List Int × Int
  | _, [], p => p
  | i, q :: qs, p => spc (i + 1) qs (q.foldl (sput i) p)
def sdec (s : List UInt8) : List Int := let p := spc 0 ((cutL 124 s).take 8) (List.replicate 8 0, 0); p.1.take p.2.toNat
end Go.Sh

/-
  Labels by first occurrence: what they tell of the list; refinement as equality of the meet.
-/
namespace Go.Sh
set_option linter.unusedSimpArgs false
set_option linter.unusedVariables false
open Go Go.Proofs

theorem idx_append {x y : Int} {S : List Int} (h : x ∈ S) : idx x (S ++ [y]) = idx x S := by
  unfold idx
  rw [if_pos h, if_pos (List.mem_append.2 (.inl h)), List.idxOf_append, if_pos h]
theorem idx_last {x : Int} {S : List Int} (h : ¬ x ∈ S) : idx x (S ++ [x]) = S.length := by
  unfold idx
  rw [if_pos (by simp), List.idxOf_append, if_neg h]
  simp
theorem idx_inj {x y : Int} {S : List Int} (hx : x ∈ S) (hy : y ∈ S) (h : idx x S = idx y S) : x = y := by
  unfold idx at h
  rw [if_pos hx, if_pos hy] at h
  have h' : S.idxOf x = S.idxOf y := by omega
  have h1 := List.getElem_idxOf (List.idxOf_lt_length_of_mem hx)
  have h2 := List.getElem_idxOf (List.idxOf_lt_length_of_mem hy)
  rw [← h1, ← h2]
  simp only [h']

theorem cst_spec (X : List Int) : ∀ k, k ≤ X.length → (∀ i, i < k → X.getD i 0 ∈ (cst (X.take k)).1 ∧ (cst (X.take k)).2.getD i 0 = idx (X.getD i 0) (cst (X.take k)).1) ∧ ∀ z, z ∈ (cst (X.take k)).1 → ∃ i, i < k ∧ X.getD i 0 = z
  | 0, _ => by
    refine ⟨fun i hi => by omega, fun z hz => ?_⟩
    rw [List.take_zero, cst_zero] at hz
    simp at hz
  | k + 1, hk => by
    obtain ⟨h1, h2⟩ := cst_spec X k (by omega)
    have e := cst_succ (L := X) (k := k) (by omega)
    have hlen : (cst (X.take k)).2.length = k := by rw [cst_len2]; simp; omega
    rw [e]
    generalize hs : cst (X.take k) = st at *
    obtain ⟨S, O⟩ := st
    simp only at h1 h2 hlen ⊢
    unfold cstep
    simp only
    by_cases hx : X.getD k 0 ∈ S
    · rw [if_pos hx]
      refine ⟨fun i hi => ?_, fun z hz => ?_⟩
      · rcases Nat.lt_succ_iff_lt_or_eq.mp hi with h | rfl
        · obtain ⟨g1, g2⟩ := h1 i h
          refine ⟨g1, ?_⟩
          rw [← g2]
          simp [List.getD, List.getElem?_append_left (show i < O.length by omega)]
        · refine ⟨hx, ?_⟩
          simp [List.getD, List.getElem?_append_right (show O.length ≤ i by omega), hlen]
      · obtain ⟨i, g1, g2⟩ := h2 z hz
        exact ⟨i, by omega, g2⟩
    · rw [if_neg hx]
      refine ⟨fun i hi => ?_, fun z hz => ?_⟩
      · rcases Nat.lt_succ_iff_lt_or_eq.mp hi with h | rfl
        · obtain ⟨g1, g2⟩ := h1 i h
          refine ⟨List.mem_append.2 (.inl g1), ?_⟩
          show (O ++ [(S.length : Int)]).getD i 0 = idx (X.getD i 0) (S ++ [X.getD k 0])
          rw [idx_append g1, ← g2]
          simp [List.getD, List.getElem?_append_left (show i < O.length by omega)]
        · refine ⟨by simp, ?_⟩
          show (O ++ [(S.length : Int)]).getD i 0 = idx (X.getD i 0) (S ++ [X.getD i 0])
          rw [idx_last hx]
          simp [List.getD, List.getElem?_append_right (show O.length ≤ i by omega), hlen]
      · rcases List.mem_append.1 hz with h | h
        · obtain ⟨i, g1, g2⟩ := h2 z h
          exact ⟨i, by omega, g2⟩
        · simp at h
          exact ⟨k, by omega, by simpa using h.symm⟩

theorem canon_inj {X : List Int} {i k : Nat} (hi : i < X.length) (hk : k < X.length) (h : (canon X).getD i 0 = (canon X).getD k 0) : X.getD i 0 = X.getD k 0 := by
  have := (cst_spec X X.length (Nat.le_refl _)).1
  rw [List.take_length] at this
  obtain ⟨g1, g2⟩ := this i hi
  obtain ⟨q1, q2⟩ := this k hk
  refine idx_inj g1 q1 ?_
  rw [← g2, ← q2]
  exact h

theorem canon_congr {X Y : List Int} (hl : X.length = Y.length) (h : ∀ i k, i < X.length → k < X.length → (X.getD i 0 = X.getD k 0 ↔ Y.getD i 0 = Y.getD k 0)) : canon X = canon Y := by
  have key : ∀ k, k ≤ X.length → (cst (X.take k)).2 = (cst (Y.take k)).2 ∧ (cst (X.take k)).1.length = (cst (Y.take k)).1.length := by
    intro k
    induction k with
    | zero => intro _; simp
    | succ k ih =>
      intro hk
      obtain ⟨i1, i2⟩ := ih (by omega)
      obtain ⟨x1, x2⟩ := cst_spec X k (by omega)
      obtain ⟨y1, y2⟩ := cst_spec Y k (by omega)
      rw [cst_succ (L := X) (by omega), cst_succ (L := Y) (by omega)]
      generalize hs : cst (X.take k) = sx at *
      generalize ht : cst (Y.take k) = sy at *
      obtain ⟨SX, OX⟩ := sx
      obtain ⟨SY, OY⟩ := sy
      simp only at i1 i2 x1 x2 y1 y2
      subst i1
      unfold cstep
      simp only
      by_cases hx : X.getD k 0 ∈ SX
      · obtain ⟨i, g1, g2⟩ := x2 _ hx
        have hy' := (h i k (by omega) (by omega)).1 g2
        have hy : Y.getD k 0 ∈ SY := by rw [← hy']; exact (y1 i g1).1
        rw [if_pos hx, if_pos hy]
        refine ⟨?_, i2⟩
        show OX ++ [idx (X.getD k 0) SX] = OX ++ [idx (Y.getD k 0) SY]
        rw [← g2, ← hy', ← (x1 i g1).2, ← (y1 i g1).2]
      · have hy : ¬ Y.getD k 0 ∈ SY := by
          intro hy
          obtain ⟨i, g1, g2⟩ := y2 _ hy
          have hx' := (h i k (by omega) (by omega)).2 g2
          exact hx (by rw [← hx']; exact (x1 i g1).1)
        rw [if_neg hx, if_neg hy]
        refine ⟨?_, ?_⟩
        · show OX ++ [(SX.length : Int)] = OX ++ [(SY.length : Int)]
          rw [i2]
        · simp [i2]
  have := (key X.length (Nat.le_refl _)).1
  rw [List.take_length] at this
  rw [canon, this, hl, List.take_length]; rfl

def rng (n : Nat) : List Int := (List.range n).map fun x : Nat => (x : Int)
theorem rng_succ (n : Nat) : rng (n + 1) = rng n ++ [(n : Int)] := by simp [rng, List.range_succ]
theorem rng_len (n : Nat) : (rng n).length = n := by simp [rng]
theorem rng_mem {n : Nat} {x : Int} : x ∈ rng n ↔ 0 ≤ x ∧ x < n := by
  simp only [rng, List.mem_map, List.mem_range]
  constructor
  · rintro ⟨a, h, rfl⟩; omega
  · rintro ⟨h1, h2⟩; exact ⟨x.toNat, by omega, by omega⟩
theorem rng_get {n i : Nat} (h : i < n) : (rng n).getD i 0 = i := by simp [rng, h]
theorem rng_idx {n : Nat} {x : Int} (h1 : 0 ≤ x) (h2 : x < n) : idx x (rng n) = x := by
  have hk : x.toNat < (rng n).length := by rw [rng_len]; omega
  have := idx_some (x := x) hk (fun i hi => by rw [rng_get (by omega)]; omega) (by rw [rng_get (by omega)]; omega)
  rw [this]; omega
theorem fold_part : ∀ (L : List Int) (n : Nat) (out : List Int), okP n L = true → ∃ m, L.foldl cstep (rng n, out) = (rng m, out ++ L)
  | [], n, out, _ => ⟨n, by simp⟩
  | x :: L, n, out, h => by
    rw [okP, Bool.and_eq_true] at h
    obtain ⟨h1, h2⟩ := inR_of h.1
    rw [List.foldl_cons]
    by_cases hx : x < n
    · have hm : x ∈ rng n := rng_mem.2 ⟨h1, hx⟩
      have e : max (n : Int) (x + 1) = n := by omega
      have h3 := h.2
      rw [e] at h3
      obtain ⟨m, hm'⟩ := fold_part L n (out ++ [x]) h3
      refine ⟨m, ?_⟩
      have : cstep (rng n, out) x = (rng n, out ++ [x]) := by
        unfold cstep
        rw [if_pos hm, rng_idx h1 hx]
      rw [this, hm']
      simp
    · have hm : ¬ x ∈ rng n := fun h => hx (rng_mem.1 h).2
      have ex : x = n := by omega
      have e : max (n : Int) (x + 1) = ((n + 1 : Nat) : Int) := by omega
      have h3 := h.2
      rw [e] at h3
      obtain ⟨m, hm'⟩ := fold_part L (n + 1) (out ++ [x]) h3
      refine ⟨m, ?_⟩
      have : cstep (rng n, out) x = (rng (n + 1), out ++ [x]) := by
        unfold cstep
        rw [if_neg hm, rng_succ]
        simp only [rng_len, ex]
      rw [this, hm']
      simp
theorem canon_part {A : List Int} (h : isPart A = true) : canon A = A := by
  rw [isPart, Bool.and_eq_true] at h
  obtain ⟨m, hm⟩ := fold_part A 0 [] h.1
  have : rng 0 = [] := rfl
  rw [this] at hm
  rw [canon, cst, hm]
  simp

def Ref (A B : List Int) : Prop := ∀ i k, k < i → i < A.length → A.getD i 0 = A.getD k 0 → B.getD i 0 = B.getD k 0
theorem both_get {A B : List Int} {k : Nat} (hl : A.length = B.length) (hk : k < A.length) : (both A B).getD k 0 = A.getD k 0 * 8 + B.getD k 0 := by
  have hk2 : k < B.length := by omega
  simp [both, List.getElem?_zipWith, hk, hk2]
theorem meet_iff {A B : List Int} (h : pairB A B = true) : meet A B = A ↔ Ref A B := by
  obtain ⟨pa, pb, hl⟩ := pairB_t h
  have hbl := both_length hl
  rw [meet, if_pos h]
  have hpat : ∀ i k, i < A.length → k < A.length → ((both A B).getD i 0 = (both A B).getD k 0 ↔ (A.getD i 0 = A.getD k 0 ∧ B.getD i 0 = B.getD k 0)) := by
    intro i k hi hk
    rw [both_get hl hi, both_get hl hk]
    have b1 := isPart_bound pb (i := i) (by omega)
    have b2 := isPart_bound pb (i := k) (by omega)
    constructor
    · intro e; omega
    · rintro ⟨e1, e2⟩; rw [e1, e2]
  constructor
  · intro e i k hki hi ha
    have h1 : (canon (both A B)).getD i 0 = (canon (both A B)).getD k 0 := by rw [e]; exact ha
    have h2 := canon_inj (by omega) (by omega) h1
    exact ((hpat i k hi (by omega)).1 h2).2
  · intro hr
    have hr' : ∀ i k, i < A.length → k < A.length → A.getD i 0 = A.getD k 0 → B.getD i 0 = B.getD k 0 := by
      intro i k hi hk e
      rcases Nat.lt_trichotomy k i with h | h | h
      · exact hr i k h hi e
      · rw [h]
      · exact (hr k i h hk e.symm).symm
    rw [canon_congr (Y := A) (by omega) (fun i k hi hk => ?_), canon_part pa]
    rw [hpat i k (by omega) (by omega)]
    exact ⟨fun e => e.1, fun e => ⟨e, hr' i k (by omega) (by omega) e⟩⟩
end Go.Sh

/-
  Partitions read back from their text: plain.
-/
namespace Go.Sh
set_option linter.unusedSimpArgs false
set_option linter.unusedVariables false
open Go Go.Proofs

theorem listExt {A B : List Int} (hl : A.length = B.length) (h : ∀ x, x < A.length → A.getD x 0 = B.getD x 0) : A = B := by
  refine List.ext_getElem hl fun i h1 h2 => ?_
  have := h i h1
  simpa [h1, h2] using this
theorem ch_nat {x : Nat} (h : x < 10) : (UInt8.ofNat (48 + x)).toNat = 48 + x := by
  rw [UInt8.toNat_ofNat']; omega
theorem fmtB_cons {x : Nat} (h : x < 10) (b : List Int) : fmtB ((x : Int) :: b) = UInt8.ofNat (48 + x) :: fmtB b := by
  rw [fmtB_eq, fmtB_eq, List.map_cons, itoa_small h, List.flatten_cons]; rfl
theorem fmtB_no {b : List Int} (h : ∀ y ∈ b, ∃ x : Nat, y = x ∧ x < 8) : (124 : UInt8) ∉ fmtB b ∧ (fmtB b).length = b.length := by
  induction b with
  | nil => exact ⟨by simp [fmtB, Lib.join_nil], rfl⟩
  | cons y b ih =>
    obtain ⟨x, rfl, hx⟩ := h y (by simp)
    obtain ⟨h1, h2⟩ := ih fun z hz => h z (by simp [hz])
    rw [fmtB_cons (by omega)]
    refine ⟨fun hm => ?_, by simp [h2]⟩
    rcases List.mem_cons.1 hm with e | hm
    · have := congrArg UInt8.toNat e
      rw [ch_nat (by omega)] at this
      simp at this; omega
    · exact h1 hm
/-- The blocks as they stand. -/
theorem part_blk {L : List Int} (h : isPart L = true) : (1 ≤ L.length ∧ L.length ≤ 8) ∧ (blkTo L L.length).length ≤ 8 ∧ 1 ≤ (blkTo L L.length).length ∧ (∀ b ∈ blkTo L L.length, ∀ y ∈ b, ∃ x : Nat, y = x ∧ x < 8) := by
  have hl : 1 ≤ L.length ∧ L.length ≤ 8 := by
    rw [isPart, Bool.and_eq_true] at h
    have := inR_of h.2; omega
  have h1 := blkTo_le L L.length
  have h2 : 1 ≤ (blkTo L L.length).length := by
    have := blkTo_len_mono L (j := 1) (k := L.length) hl.1
    have h3 : L.getD 0 0 < (blkTo L 1).length := blkTo_lt h (k := 0) (by omega)
    obtain ⟨x, hx, _⟩ := blk_at h (k := 0) (by omega)
    rw [hx] at h3
    omega
  refine ⟨hl, by omega, h2, fun b hb y hy => ?_⟩
  obtain ⟨i, hi, rfl⟩ := List.getElem_of_mem hb
  have := (blk_mem h L.length (Nat.le_refl _) i hi).2 y
  have e : mrow (blkTo L L.length) i = (blkTo L L.length)[i] := by simp [mrow, hi]
  rw [e] at this
  obtain ⟨x, x1, x2, _⟩ := this.1 hy
  exact ⟨x, x2, by omega⟩
theorem fmtP_cut {L : List Int} (h : isPart L = true) : cutL 124 (fmtP L) = (blkTo L L.length).map fmtB := by
  obtain ⟨_, _, h2, h3⟩ := part_blk h
  rw [fmtP, blocksOf_t h]
  generalize blkTo L L.length = B at *
  cases B with
  | nil => simp at h2
  | cons b B =>
    rw [List.map_cons]
    refine cutL_join fun q hq => ?_
    rw [← List.map_cons] at hq
    obtain ⟨c, hc, rfl⟩ := List.mem_map.1 hq
    exact (fmtB_no (h3 c hc)).1

/-- What is right of a list half read. -/
structure SInv (L : List Int) (p : List Int × Int) (D : Nat → Prop) : Prop where
  ln : p.1.length = 8
  n0 : 0 ≤ p.2
  n1 : p.2 ≤ L.length
  ok : ∀ x, D x → p.1.getD x 0 = L.getD x 0 ∧ (x : Int) < p.2
theorem SInv.put {L : List Int} {p : List Int × Int} {D : Nat → Prop} (h : SInv L p D) {x : Nat} {i : Int} (hx : x < L.length) (h8 : x < 8) (hi : L.getD x 0 = i) : SInv L (sput i p (UInt8.ofNat (48 + x))) (fun y => D y ∨ y = x) := by
  have e : sput i p (UInt8.ofNat (48 + x)) = (p.1.set x i, max p.2 ((x : Int) + 1)) := by
    rw [sput, ch_nat (by omega), if_pos (by omega)]
    congr 2
    · omega
    · omega
  rw [e]
  have := h.n0
  have := h.n1
  refine ⟨by simp [h.ln], by show 0 ≤ max p.2 ((x : Int) + 1); omega, by show max p.2 ((x : Int) + 1) ≤ L.length; omega, fun y hy => ?_⟩
  show (p.1.set x i).getD y 0 = L.getD y 0 ∧ (y : Int) < max p.2 ((x : Int) + 1)
  have hl := h.ln
  by_cases hyx : y = x
  · subst hyx
    refine ⟨?_, by omega⟩
    rw [← hi]; simp [hl, h8]
  · rcases hy with hy | hy
    · obtain ⟨h1, h2⟩ := h.ok y hy
      refine ⟨?_, by omega⟩
      rw [← h1]; simp [List.getElem?_set, Ne.symm hyx]
    · exact absurd hy hyx
theorem SInv.block {L : List Int} {i : Int} : ∀ {b : List Int} {p : List Int × Int} {D : Nat → Prop}, SInv L p D → (∀ y ∈ b, ∃ x : Nat, y = x ∧ x < L.length ∧ x < 8 ∧ L.getD x 0 = i) → SInv L ((fmtB b).foldl (sput i) p) (fun x => D x ∨ (x : Int) ∈ b)
  | [], p, D, h, _ => ⟨h.ln, h.n0, h.n1, fun x hx => h.ok x (by simpa using hx)⟩
  | y :: b, p, D, h, hb => by
    obtain ⟨x, rfl, h1, h2, h3⟩ := hb y (by simp)
    rw [fmtB_cons (by omega), List.foldl_cons]
    have := SInv.block (h.put h1 h2 h3) (b := b) (fun z hz => hb z (by simp [hz]))
    refine ⟨this.ln, this.n0, this.n1, fun z hz => this.ok z ?_⟩
    rcases hz with hz | hz
    · exact .inl (.inl hz)
    · rcases List.mem_cons.1 hz with hz | hz
      · exact .inl (.inr (by exact_mod_cast hz))
      · exact .inr hz
theorem SInv.blocks {L : List Int} : ∀ {B : List (List Int)} {i : Int} {p : List Int × Int} {D : Nat → Prop}, SInv L p D → (∀ j, j < B.length → ∀ y ∈ mrow B j, ∃ x : Nat, y = x ∧ x < L.length ∧ x < 8 ∧ L.getD x 0 = i + j) → SInv L (spc i (B.map fmtB) p) (fun x => D x ∨ ∃ j, j < B.length ∧ (x : Int) ∈ mrow B j)
  | [], i, p, D, h, _ => ⟨h.ln, h.n0, h.n1, fun x hx => h.ok x (by simpa using hx)⟩
  | b :: B, i, p, D, h, hb => by
    have h1 := SInv.block h (b := b) (i := i) (fun y hy => by
      obtain ⟨x, x1, x2, x3, x4⟩ := hb 0 (by simp) y hy
      exact ⟨x, x1, x2, x3, by simpa using x4⟩)
    have h2 := SInv.blocks (B := B) (i := i + 1) h1 (fun j hj y hy => by
      obtain ⟨x, x1, x2, x3, x4⟩ := hb (j + 1) (by simpa using hj) y hy
      exact ⟨x, x1, x2, x3, by rw [x4]; omega⟩)
    rw [List.map_cons, spc]
    refine ⟨h2.ln, h2.n0, h2.n1, fun z hz => h2.ok z ?_⟩
    rcases hz with hz | ⟨j, hj, hz⟩
    · exact .inl (.inl hz)
    · cases j with
      | zero => exact .inl (.inr hz)
      | succ j => exact .inr ⟨j, by simpa using hj, hz⟩
theorem SInv.all {L : List Int} {p : List Int × Int} {D : Nat → Prop} (h : SInv L p D) (hD : ∀ x, x < L.length → D x) (h1 : 1 ≤ L.length ∧ L.length ≤ 8) : p.1.take p.2.toNat = L := by
  have hn : p.2 = L.length := by
    have := (h.ok (L.length - 1) (hD _ (by omega))).2
    have := h.n1
    omega
  rw [hn, Int.toNat_natCast]
  refine listExt (by rw [List.length_take, h.ln]; omega) fun x hx => ?_
  have hx' : x < L.length := by rw [List.length_take, h.ln] at hx; omega
  rw [← (h.ok x (hD x hx')).1]
  simp [List.getElem?_take, hx']
theorem sdec_fmt {L : List Int} (h : isPart L = true) : sdec (fmtP L) = L := by
  obtain ⟨hl, h8, _, _⟩ := part_blk h
  have hm := fun i hi => (blk_mem h L.length (Nat.le_refl _) i hi).2
  have e8 : ((blkTo L L.length).map fmtB).take 8 = (blkTo L L.length).map fmtB := List.take_of_length_le (by rw [List.length_map]; exact h8)
  rw [sdec, fmtP_cut h, e8]
  have h0 : SInv L (List.replicate 8 0, 0) (fun _ => False) := ⟨by simp, by simp, by simp, fun x hx => hx.elim⟩
  have := SInv.blocks (B := blkTo L L.length) (i := 0) h0 (fun j hj y hy => by
    obtain ⟨x, x1, x2, x3⟩ := (hm j hj y).1 hy
    exact ⟨x, x2, x1, by omega, by rw [x3]; omega⟩)
  refine this.all (fun x hx => .inr ?_) hl
  obtain ⟨q, hq, _⟩ := blk_at h hx
  have hlt := blkTo_lt h hx
  have hmn := blkTo_len_mono L (j := x + 1) (k := L.length) (by omega)
  have hq2 : q < (blkTo L L.length).length := by omega
  exact ⟨q, hq2, (hm q hq2 _).2 ⟨x, hx, rfl, hq⟩⟩

/-! ### What the program reads -/
def iput (n : Nat) (i : Int) : List UInt8 → List Int → Option (List Int)
  | [], l => some l
  | c :: cs, l => if 0 ≤ (c.toNat : Int) - 48 ∧ (c.toNat : Int) - 48 ≤ (n : Int) - 1 then iput n i cs (l.set (c.toNat - 48) i) else none
def ipc (n : Nat) : Int → List (List UInt8) → List Int → Option (List Int)
  | _, [], l => some l
  | i, q :: qs, l => match iput n i q l with
    | some l => ipc n (i + 1) qs l
    | none => none
def idec (s : List UInt8) : Option (List Int) := if 16 < s.length then none else ipc (s.length - s.count 124) 0 (cutL 124 s) (List.replicate (s.length - s.count 124) 0)
def IOk (L l : List Int) (D : Nat → Prop) : Prop := l.length = L.length ∧ ∀ x, D x → l.getD x 0 = L.getD x 0
theorem IOk.block {L : List Int} {i : Int} : ∀ {b : List Int} {l : List Int} {D : Nat → Prop}, IOk L l D → (∀ y ∈ b, ∃ x : Nat, y = x ∧ x < L.length ∧ x < 8 ∧ L.getD x 0 = i) → ∃ l', iput L.length i (fmtB b) l = some l' ∧ IOk L l' (fun x => D x ∨ (x : Int) ∈ b)
  | [], l, D, h, _ => ⟨l, rfl, h.1, fun x hx => h.2 x (by simpa using hx)⟩
  | y :: b, l, D, h, hb => by
    obtain ⟨x, rfl, h1, h2, h3⟩ := hb y (by simp)
    rw [fmtB_cons (by omega), iput, ch_nat (by omega), if_pos (by omega), show 48 + x - 48 = x by omega]
    have hset : IOk L (l.set x i) (fun z => D z ∨ z = x) := by
      refine ⟨by rw [List.length_set]; exact h.1, fun z hz => ?_⟩
      by_cases hzx : z = x
      · subst hzx; rw [← h3]; simp [h.1, h1]
      · rcases hz with hz | hz
        · rw [← h.2 z hz]; simp [List.getElem?_set, Ne.symm hzx]
        · exact absurd hz hzx
    obtain ⟨l', e, g⟩ := IOk.block hset (b := b) (fun z hz => hb z (by simp [hz]))
    refine ⟨l', e, g.1, fun z hz => g.2 z ?_⟩
    rcases hz with hz | hz
    · exact .inl (.inl hz)
    · rcases List.mem_cons.1 hz with hz | hz
      · exact .inl (.inr (by exact_mod_cast hz))
      · exact .inr hz
theorem IOk.blocks {L : List Int} : ∀ {B : List (List Int)} {i : Int} {l : List Int} {D : Nat → Prop}, IOk L l D → (∀ j, j < B.length → ∀ y ∈ mrow B j, ∃ x : Nat, y = x ∧ x < L.length ∧ x < 8 ∧ L.getD x 0 = i + j) → ∃ l', ipc L.length i (B.map fmtB) l = some l' ∧ IOk L l' (fun x => D x ∨ ∃ j, j < B.length ∧ (x : Int) ∈ mrow B j)
  | [], i, l, D, h, _ => ⟨l, rfl, h.1, fun x hx => h.2 x (by simpa using hx)⟩
  | b :: B, i, l, D, h, hb => by
    obtain ⟨l1, e1, h1⟩ := IOk.block h (b := b) (i := i) (fun y hy => by
      obtain ⟨x, x1, x2, x3, x4⟩ := hb 0 (by simp) y hy
      exact ⟨x, x1, x2, x3, by simpa using x4⟩)
    obtain ⟨l2, e2, h2⟩ := IOk.blocks (B := B) (i := i + 1) h1 (fun j hj y hy => by
      obtain ⟨x, x1, x2, x3, x4⟩ := hb (j + 1) (by simpa using hj) y hy
      exact ⟨x, x1, x2, x3, by rw [x4]; omega⟩)
    refine ⟨l2, by rw [List.map_cons, ipc, e1]; exact e2, h2.1, fun z hz => h2.2 z ?_⟩
    rcases hz with hz | ⟨j, hj, hz⟩
    · exact .inl (.inl hz)
    · cases j with
      | zero => exact .inl (.inr hz)
      | succ j => exact .inr ⟨j, by simpa using hj, hz⟩
theorem join_len {c : UInt8} : ∀ {p : List UInt8} {ps : List (List UInt8)}, (∀ q ∈ p :: ps, c ∉ q) → (Lib.join (p :: ps) [c]).length = ((p :: ps).map List.length).sum + ps.length ∧ (Lib.join (p :: ps) [c]).count c = ps.length
  | p, [], h => by rw [Lib.join_one]; simp [List.count_eq_zero.2 (h p (by simp))]
  | p, q :: ps, h => by
    have e : Lib.join (p :: q :: ps) [c] = p ++ c :: Lib.join (q :: ps) [c] := by
      rw [Lib.join_cons, Lib.join_cons]; simp [Lib.joinTail]
    obtain ⟨h1, h2⟩ := join_len (c := c) (p := q) (ps := ps) (fun r hr => h r (List.mem_cons_of_mem _ hr))
    have h0 : p.count c = 0 := List.count_eq_zero.2 (h p (by simp))
    rw [e]
    constructor
    · rw [List.length_append, List.length_cons, h1]; simp; omega
    · rw [List.count_append, List.count_cons_self, h2, h0]; simp
theorem idec_fmt {L : List Int} (h : isPart L = true) : idec (fmtP L) = some L := by
  obtain ⟨hl, h8, h1, h3⟩ := part_blk h
  have hm := fun i hi => (blk_mem h L.length (Nat.le_refl _) i hi).2
  have hsum := blk_sum h L.length (Nat.le_refl _)
  have hlen : (fmtP L).length = L.length + ((blkTo L L.length).length - 1) ∧ (fmtP L).count 124 = (blkTo L L.length).length - 1 := by
    rw [fmtP, blocksOf_t h]
    generalize blkTo L L.length = B at *
    cases B with
    | nil => simp at h1
    | cons b B =>
      rw [List.map_cons]
      obtain ⟨j1, j2⟩ := join_len (c := 124) (p := fmtB b) (ps := B.map fmtB) (fun q hq => by
        rw [← List.map_cons] at hq
        obtain ⟨c, hc, rfl⟩ := List.mem_map.1 hq
        exact (fmtB_no (h3 c hc)).1)
      have e : ((fmtB b :: B.map fmtB).map List.length) = ((b :: B).map List.length) := by
        rw [← List.map_cons, List.map_map]
        exact List.map_congr_left fun c hc => (fmtB_no (h3 c hc)).2
      rw [j1, j2, e, hsum]
      simp
  have hn : (fmtP L).length - (fmtP L).count 124 = L.length := by omega
  rw [idec, if_neg (by omega), hn, fmtP_cut h]
  have h0 : IOk L (List.replicate L.length 0) (fun _ => False) := ⟨by simp, fun x hx => hx.elim⟩
  obtain ⟨l, e, g⟩ := IOk.blocks (B := blkTo L L.length) (i := 0) h0 (fun j hj y hy => by
    obtain ⟨x, x1, x2, x3⟩ := (hm j hj y).1 hy
    exact ⟨x, x2, x1, by omega, by rw [x3]; omega⟩)
  rw [e]
  congr 1
  refine listExt g.1 fun x hx => g.2 x (.inr ?_)
  rw [g.1] at hx
  obtain ⟨q, hq, _⟩ := blk_at h hx
  have hlt := blkTo_lt h hx
  have hmn := blkTo_len_mono L (j := x + 1) (k := L.length) (by omega)
  have hq2 : q < (blkTo L L.length).length := by omega
  exact ⟨q, hq2, (hm q hq2 _).2 ⟨x, hx, rfl, hq⟩⟩
theorem fmtP_part {L : List Int} (h : fmtP L ≠ []) : isPart L = true := by
  cases hp : isPart L with
  | true => rfl
  | false => exact absurd (fmtP_f hp) h

/-- What both give. -/
def pp (s : List UInt8) : List Int × Bool := if s ≠ [] ∧ fmtP (sdec s) = s then (sdec s, true) else ([], false)
theorem pp_t {s : List UInt8} {l : List Int} (h0 : s ≠ []) (h : fmtP l = s) : pp s = (l, true) := by
  have hp := fmtP_part (L := l) (by rw [h]; exact h0)
  have e : sdec s = l := by rw [← h]; exact sdec_fmt hp
  rw [pp, if_pos ⟨h0, by rw [e, h]⟩, e]
theorem pp_f {s : List UInt8} (h : ¬ (s ≠ [] ∧ fmtP (sdec s) = s)) : pp s = ([], false) := if_neg h
theorem pp_in {s : List UInt8} (h : idec s = none) : pp s = ([], false) := by
  refine pp_f fun ⟨h0, h1⟩ => ?_
  have hp := fmtP_part (L := sdec s) (by rw [h1]; exact h0)
  have := idec_fmt hp
  rw [h1, h] at this; cases this
theorem pp_is {s : List UInt8} {l : List Int} (h : idec s = some l) (hn : fmtP l ≠ s) : pp s = ([], false) := by
  refine pp_f fun ⟨h0, h1⟩ => ?_
  have hp := fmtP_part (L := sdec s) (by rw [h1]; exact h0)
  have := idec_fmt hp
  rw [h1, h] at this
  simp at this
  exact hn (by rw [this]; exact h1)
end Go.Sh

/-
  Contracts: the blocks of a partition. Of the program.
-/
namespace Go.Sh
set_option linter.unusedSimpArgs false
set_option linter.unusedVariables false
open Go Go.Proofs

def blkF (L : List Int) : Nat × List (Nat × List SV) × Nat × Nat → St
  | (0, _, _, nb) => ⟨ofL [(3, .val (.slice none 0 0)), (6, ri L), (7, .val (.int .i64 L.length)), (8, .val (.int .i64 0))], hp [] nb⟩
  | (k + 1, nr, ob, nb) => ⟨ofL [(3, .own ob 0 nr.length nr.length 1 false), (6, ri L), (7, .val (.int .i64 L.length)), (8, .val (.int .i64 ((k + 1 : Nat) : Int)))], hx [.blk ob ⟨outerN false nr, false⟩, .rows false nr] nb⟩

def sblk (L : List Int) : List (List Int) := blocksOf L
end Go.Sh

/-
  Plain: components of a graph over 0 .. n-1, numbered by their first item; that the labels are determined; what a search leaves behind.
-/
namespace Go.Sh
set_option linter.unusedSimpArgs false
set_option linter.unusedVariables false
open Go Go.Proofs

inductive Rch (n : Nat) (B : Nat → Nat → Bool) : Nat → Nat → Prop
  | refl {x : Nat} : Rch n B x x
  | tail {x y z : Nat} : Rch n B x y → y < n → z < n → B y z = true → Rch n B x z
theorem Rch.trans {n : Nat} {B : Nat → Nat → Bool} {x y z : Nat} (h : Rch n B x y) (g : Rch n B y z) : Rch n B x z := by
  induction g with
  | refl => exact h
  | tail _ h1 h2 h3 ih => exact .tail ih h1 h2 h3
theorem Rch.one {n : Nat} {B : Nat → Nat → Bool} {x y : Nat} (h1 : x < n) (h2 : y < n) (h : B x y = true) : Rch n B x y := .tail .refl h1 h2 h
theorem Rch.symm {n : Nat} {B : Nat → Nat → Bool} (hs : ∀ x y, x < n → y < n → B x y = true → B y x = true) {x y : Nat} (h : Rch n B x y) : Rch n B y x := by
  induction h with
  | refl => exact .refl
  | tail _ h1 h2 h3 ih => exact (Rch.one h2 h1 (hs _ _ h1 h2 h3)).trans ih
theorem Rch.mono {n : Nat} {B B' : Nat → Nat → Bool} (hb : ∀ x y, x < n → y < n → B x y = true → Rch n B' x y) {x y : Nat} (h : Rch n B x y) : Rch n B' x y := by
  induction h with
  | refl => exact .refl
  | tail _ h1 h2 h3 ih => exact ih.trans (hb _ _ h1 h2 h3)
theorem Rch.lt {n : Nat} {B : Nat → Nat → Bool} {x y : Nat} (h : Rch n B x y) (hx : x < n) : y < n := by
  cases h with
  | refl => exact hx
  | tail _ _ h2 _ => exact h2
def RchK (n : Nat) (B : Nat → Nat → Bool) : Nat → Nat → Nat → Prop
  | 0, x, y => x = y
  | k + 1, x, z => RchK n B k x z ∨ ∃ y, y < n ∧ z < n ∧ RchK n B k x y ∧ B y z = true
theorem RchK.rch {n : Nat} {B : Nat → Nat → Bool} : ∀ {k x y : Nat}, RchK n B k x y → Rch n B x y
  | 0, x, y, h => by rw [RchK] at h; subst h; exact .refl
  | k + 1, x, z, h => by
    rw [RchK] at h
    rcases h with h | ⟨y, h1, h2, h3, h4⟩
    · exact RchK.rch h
    · exact .tail (RchK.rch h3) h1 h2 h4
theorem RchK.self {n : Nat} {B : Nat → Nat → Bool} : ∀ {k x : Nat}, RchK n B k x x
  | 0, x => rfl
  | k + 1, x => .inl RchK.self
theorem countP_lt {α : Type} {p q : α → Bool} : ∀ {l : List α} {i : α}, (∀ x ∈ l, p x = true → q x = true) → i ∈ l → q i = true → p i = false → l.countP p < l.countP q
  | [], i, _, h, _, _ => by simp at h
  | a :: l, i, hpq, h, hq, hp => by
    have hle : l.countP p ≤ l.countP q := List.countP_mono_left (fun x hx h => hpq x (by simp [hx]) h)
    rcases List.mem_cons.1 h with rfl | h
    · rw [List.countP_cons_of_neg (by simp [hp]), List.countP_cons_of_pos hq]; omega
    · have := countP_lt (fun x hx => hpq x (by simp [hx])) h hq hp
      rw [List.countP_cons, List.countP_cons]
      have := hpq a (by simp)
      cases hpa : p a with
      | false => simp; omega
      | true => simp [this hpa]; omega
open Classical in
theorem rch_closed {n : Nat} {B : Nat → Nat → Bool} {i : Nat} (hi : i < n) : ∀ k, (∀ x y, x < n → y < n → RchK n B k i x → B x y = true → RchK n B k i y) ∨ k + 1 ≤ (List.range n).countP (fun x => decide (RchK n B k i x))
  | 0 => by
    right
    have : 0 < (List.range n).countP (fun x => decide (RchK n B 0 i x)) := List.countP_pos_iff.2 ⟨i, by simpa using hi, by simp [RchK]⟩
    omega
  | k + 1 => by
    by_cases hc : ∀ x y, x < n → y < n → RchK n B k i x → B x y = true → RchK n B k i y
    · left
      intro x y hx hy h hb
      refine .inl (hc x y hx hy ?_ hb)
      rcases h with h | ⟨z, h1, h2, h3, h4⟩
      · exact h
      · exact hc z x h1 h2 h3 h4
    · right
      have ih := (rch_closed hi k).resolve_left hc
      have : ∃ x y, x < n ∧ y < n ∧ RchK n B k i x ∧ B x y = true ∧ ¬ RchK n B k i y := by
        refine Classical.byContradiction fun hn => hc fun x y hx hy h hb => Classical.byContradiction fun h2 => hn ⟨x, y, hx, hy, h, hb, h2⟩
      obtain ⟨x, y, hx, hy, h, hb, h2⟩ := this
      have := countP_lt (p := fun x => decide (RchK n B k i x)) (q := fun x => decide (RchK n B (k + 1) i x)) (l := List.range n) (i := y)
        (fun z _ hz => decide_eq_true (.inl (of_decide_eq_true hz))) (by simpa using hy) (decide_eq_true (.inr ⟨x, hx, hy, h, hb⟩)) (decide_eq_false h2)
      omega
theorem rch_bound {n : Nat} {B : Nat → Nat → Bool} {i x : Nat} (hi : i < n) (h : Rch n B i x) : RchK n B n i x := by
  have hc := (rch_closed (B := B) hi n).resolve_right (fun h => by
    have := List.countP_le_length (l := List.range n) (p := fun x => @decide (RchK n B n i x) (Classical.propDecidable _))
    simp only [List.length_range] at this
    omega)
  induction h with
  | refl => exact RchK.self
  | tail _ h1 h2 h3 ih => exact hc _ _ h1 h2 ih h3

/-- The labels of the components. -/
structure CompL (n : Nat) (B : Nat → Nat → Bool) (L : List Int) : Prop where
  len : L.length = n
  nn : ∀ x, x < n → 0 ≤ L.getD x 0
  can : ∀ x v, x < n → 0 ≤ v → v < L.getD x 0 → ∃ y, y < x ∧ L.getD y 0 = v
  iff : ∀ x y, x < n → y < n → (L.getD x 0 = L.getD y 0 ↔ Rch n B x y)
theorem list_ext {L L' : List Int} (h : L.length = L'.length) (g : ∀ x, x < L.length → L.getD x 0 = L'.getD x 0) : L = L' := by
  refine List.ext_getElem h fun i h1 h2 => ?_
  have := g i h1
  simpa [h1, h2] using this
theorem CompL.uniq {n : Nat} {B B' : Nat → Nat → Bool} {L L' : List Int} (h : CompL n B L) (h' : CompL n B' L') (hb : ∀ x y, x < n → y < n → (Rch n B x y ↔ Rch n B' x y)) : L = L' := by
  refine list_ext (h.len.trans h'.len.symm) (fun x hx => ?_)
  rw [h.len] at hx
  induction x using Nat.strongRecOn with
  | _ x ih =>
    rcases Int.lt_trichotomy (L.getD x 0) (L'.getD x 0) with hl | he | hl
    · obtain ⟨y, hy, e⟩ := h'.can x _ hx (h.nn x hx) hl
      have e2 := ih y hy (by omega)
      have := (h.iff y x (by omega) hx).1 (by omega)
      have := (h'.iff y x (by omega) hx).2 ((hb _ _ (by omega) hx).1 this)
      omega
    · exact he
    · obtain ⟨y, hy, e⟩ := h.can x _ hx (h'.nn x hx) hl
      have e2 := ih y hy (by omega)
      have := (h'.iff y x (by omega) hx).1 (by omega)
      have := (h.iff y x (by omega) hx).2 ((hb _ _ (by omega) hx).2 this)
      omega
open Classical in
noncomputable def comp (n : Nat) (B : Nat → Nat → Bool) : List Int := if h : ∃ L, CompL n B L then Classical.choose h else []
theorem CompL.eq {n : Nat} {B : Nat → Nat → Bool} {L : List Int} (h : CompL n B L) : L = comp n B := by
  have hex : ∃ L, CompL n B L := ⟨L, h⟩
  rw [comp, dif_pos hex]
  exact h.uniq (Classical.choose_spec hex) (fun _ _ _ _ => Iff.rfl)
theorem CompL.comp {n : Nat} {B : Nat → Nat → Bool} {L : List Int} (h : CompL n B L) : CompL n B (comp n B) := by rw [← h.eq]; exact h

/-- Items before i are labelled, with whole components. -/
structure PartL (n : Nat) (B : Nat → Nat → Bool) (i : Nat) (c : Int) (O : List Int) : Prop where
  len : O.length = n
  c0 : 0 ≤ c
  ci : c ≤ i
  done : ∀ x, x < i → x < n → 0 ≤ O.getD x 0
  rng : ∀ x, x < n → O.getD x 0 < c
  vals : ∀ v, 0 ≤ v → v < c → ∃ y, y < i ∧ y < n ∧ O.getD y 0 = v
  can : ∀ x v, x < n → 0 ≤ v → v < O.getD x 0 → ∃ y, y < x ∧ O.getD y 0 = v
  clo : ∀ x y, x < n → y < n → 0 ≤ O.getD x 0 → B x y = true → O.getD y 0 = O.getD x 0
  snd : ∀ x y, x < n → y < n → 0 ≤ O.getD x 0 → O.getD x 0 = O.getD y 0 → Rch n B x y
theorem getD_rep {n x : Nat} {a : Int} (h : x < n) : (List.replicate n a).getD x 0 = a := by simp [h]
theorem PartL.zero (n : Nat) (B : Nat → Nat → Bool) : PartL n B 0 0 (List.replicate n (-1)) where
  len := by simp
  c0 := by omega
  ci := by omega
  done x h := by omega
  rng x h := by rw [getD_rep h]; omega
  vals v h1 h2 := by omega
  can x v h h1 h2 := by rw [getD_rep h] at h2; omega
  clo x y h1 _ h2 := by rw [getD_rep h1] at h2; omega
  snd x y h1 _ h2 := by rw [getD_rep h1] at h2; omega
theorem PartL.skip {n : Nat} {B : Nat → Nat → Bool} {i : Nat} {c : Int} {O : List Int} (h : PartL n B i c O) (hi : 0 ≤ O.getD i 0) : PartL n B (i + 1) c O where
  len := h.len
  c0 := h.c0
  ci := by have := h.ci; omega
  done x hx hn := by
    rcases Nat.lt_succ_iff_lt_or_eq.1 hx with g | rfl
    · exact h.done x g hn
    · exact hi
  rng := h.rng
  vals v h1 h2 := by
    obtain ⟨y, g1, g2⟩ := h.vals v h1 h2
    exact ⟨y, by omega, g2⟩
  can := h.can
  clo := h.clo
  snd := h.snd
theorem PartL.path {n : Nat} {B : Nat → Nat → Bool} {i : Nat} {c : Int} {O : List Int} (h : PartL n B i c O) {x y : Nat} (hr : Rch n B x y) (h0 : 0 ≤ O.getD x 0) : O.getD y 0 = O.getD x 0 := by
  induction hr with
  | refl => rfl
  | tail _ h1 h2 h3 ih => rw [h.clo _ _ h1 h2 (by rw [ih]; exact h0) h3, ih]
/-- O' is O with the component of i labelled c. -/
structure NewL (n : Nat) (B : Nat → Nat → Bool) (c : Int) (i : Nat) (O O' : List Int) : Prop where
  len : O'.length = n
  new : ∀ x, x < n → Rch n B i x → O'.getD x 0 = c
  old : ∀ x, x < n → ¬ Rch n B i x → 0 ≤ O.getD x 0 → O'.getD x 0 = O.getD x 0
  neg : ∀ x, x < n → ¬ Rch n B i x → O.getD x 0 < 0 → O'.getD x 0 < 0
theorem PartL.unl {n : Nat} {B : Nat → Nat → Bool} (hs : ∀ x y, x < n → y < n → B x y = true → B y x = true) {i : Nat} {c : Int} {O : List Int} (h : PartL n B i c O) {k : Nat} (h0 : O.getD k 0 < 0) {x : Nat} (hr : Rch n B k x) : O.getD x 0 < 0 := by
  refine Int.not_le.1 fun hn => ?_
  have := h.path (hr.symm hs) hn
  omega
theorem PartL.step {n : Nat} {B : Nat → Nat → Bool} (hs : ∀ x y, x < n → y < n → B x y = true → B y x = true) {i : Nat} {c : Int} {O O' : List Int} (h : PartL n B i c O) (hi : i < n) (h0 : O.getD i 0 < 0) (g : NewL n B c i O O') : PartL n B (i + 1) (c + 1) O' := by
  have hun : ∀ x, Rch n B i x → O.getD x 0 < 0 := fun x hr => h.unl hs h0 hr
  have hkeep : ∀ x, x < n → 0 ≤ O.getD x 0 → O'.getD x 0 = O.getD x 0 := fun x hx hn => g.old x hx (fun hr => by have := hun x hr; omega) hn
  have hback : ∀ x, x < n → ¬ Rch n B i x → 0 ≤ O'.getD x 0 → O'.getD x 0 = O.getD x 0 ∧ 0 ≤ O.getD x 0 := by
    intro x hx hr hn
    by_cases h1 : 0 ≤ O.getD x 0
    · exact ⟨hkeep x hx h1, h1⟩
    · have := g.neg x hx hr (by omega); omega
  have hc0 := h.c0
  have hci := h.ci
  refine ⟨g.len, by omega, by omega, ?_, ?_, ?_, ?_, ?_, ?_⟩
  · intro x hx hn
    rcases Nat.lt_succ_iff_lt_or_eq.1 hx with k | rfl
    · have := h.done x k hn
      rw [hkeep x hn this]; exact this
    · rw [g.new x hn .refl]; omega
  · intro x hx
    by_cases hr : Rch n B i x
    · rw [g.new x hx hr]; omega
    · by_cases hn : 0 ≤ O'.getD x 0
      · have := hback x hx hr hn
        have := h.rng x hx
        omega
      · omega
  · intro v h1 h2
    by_cases hv : v = c
    · exact ⟨i, by omega, hi, by rw [g.new i hi .refl, hv]⟩
    · obtain ⟨y, k1, k2, k3⟩ := h.vals v h1 (by omega)
      exact ⟨y, by omega, k2, by rw [hkeep y k2 (by omega), k3]⟩
  · intro x v hx h1 h2
    by_cases hr : Rch n B i x
    · rw [g.new x hx hr] at h2
      obtain ⟨y, k1, k2, k3⟩ := h.vals v h1 h2
      have : ¬ x < i := fun hl => by have := h.done x hl hx; have := hun x hr; omega
      exact ⟨y, by omega, by rw [hkeep y k2 (by omega), k3]⟩
    · have hb := hback x hx hr (by omega)
      rw [hb.1] at h2
      obtain ⟨y, k1, k2⟩ := h.can x v hx h1 h2
      exact ⟨y, k1, by rw [hkeep y (by omega) (by omega), k2]⟩
  · intro x y hx hy h1 hb
    by_cases hr : Rch n B i x
    · rw [g.new x hx hr, g.new y hy (.tail hr hx hy hb)]
    · have hq := hback x hx hr h1
      have := h.clo x y hx hy hq.2 hb
      rw [hkeep y hy (by omega)]
      omega
  · intro x y hx hy h1 he
    by_cases hr : Rch n B i x
    · by_cases hr2 : Rch n B i y
      · exact (hr.symm hs).trans hr2
      · have := g.new x hx hr
        have := hback y hy hr2 (by omega)
        have := h.rng y hy
        omega
    · have hq := hback x hx hr h1
      by_cases hr2 : Rch n B i y
      · have := g.new y hy hr2
        have := h.rng x hx
        omega
      · have := hback y hy hr2 (by omega)
        exact h.snd x y hx hy hq.2 (by omega)
theorem PartL.final {n : Nat} {B : Nat → Nat → Bool} {i : Nat} {c : Int} {O : List Int} (h : PartL n B i c O) (hi : n ≤ i) : CompL n B O where
  len := h.len
  nn x hx := h.done x (by omega) hx
  can := h.can
  iff x y hx hy := ⟨fun e => h.snd x y hx hy (h.done x (by omega) hx) e, fun r => (h.path r (h.done x (by omega) hx)).symm⟩

/-! ### The search that calls itself -/
structure DfsL (n : Nat) (B : Nat → Nat → Bool) (c : Int) (i : Nat) (O O' : List Int) : Prop where
  len : O'.length = n
  self : O'.getD i 0 = c
  keep : ∀ x, x < n → 0 ≤ O.getD x 0 → O'.getD x 0 = O.getD x 0
  new : ∀ x, x < n → O.getD x 0 < 0 → O'.getD x 0 < 0 ∨ (O'.getD x 0 = c ∧ Rch n B i x)
  clo : ∀ x y, x < n → y < n → O.getD x 0 < 0 → 0 ≤ O'.getD x 0 → B x y = true → 0 ≤ O'.getD y 0
structure DfsK (n : Nat) (B : Nat → Nat → Bool) (c : Int) (i : Nat) (O : List Int) (k : Nat) (O' : List Int) : Prop where
  len : O'.length = n
  self : O'.getD i 0 = c
  keep : ∀ x, x < n → 0 ≤ O.getD x 0 → O'.getD x 0 = O.getD x 0
  new : ∀ x, x < n → O.getD x 0 < 0 → O'.getD x 0 < 0 ∨ (O'.getD x 0 = c ∧ Rch n B i x)
  clo : ∀ x y, x < n → y < n → x ≠ i → O.getD x 0 < 0 → 0 ≤ O'.getD x 0 → B x y = true → 0 ≤ O'.getD y 0
  cli : ∀ y, y < n → y < k → B i y = true → 0 ≤ O'.getD y 0
theorem getD_set {L : List Int} {i x : Nat} {a : Int} (hi : i < L.length) : (L.set i a).getD x 0 = if x = i then a else L.getD x 0 := by
  simp only [List.getD_eq_getElem?_getD, List.getElem?_set]
  by_cases h : i = x
  · subst h; simp [hi]
  · have : ¬ x = i := fun e => h e.symm
    simp [h, this]
theorem DfsK.start {n : Nat} {B : Nat → Nat → Bool} {c : Int} {i : Nat} {O : List Int} (hl : O.length = n) (hi : i < n) (h0 : O.getD i 0 < 0) : DfsK n B c i O 0 (O.set i c) where
  len := by simpa using hl
  self := by rw [getD_set (by omega), if_pos rfl]
  keep x hx h := by
    rw [getD_set (by omega), if_neg (fun e => by subst e; omega)]
  new x hx h := by
    rw [getD_set (by omega)]
    by_cases e : x = i
    · subst e; rw [if_pos rfl]; exact .inr ⟨rfl, .refl⟩
    · rw [if_neg e]; exact .inl h
  clo x y hx hy hne h h2 hb := by
    rw [getD_set (by omega), if_neg hne] at h2; omega
  cli y _ h := by omega
theorem DfsK.skip {n : Nat} {B : Nat → Nat → Bool} {c : Int} {i k : Nat} {O O' : List Int} (h : DfsK n B c i O k O') (hk : B i k = true → 0 ≤ O'.getD k 0) : DfsK n B c i O (k + 1) O' := by
  refine ⟨h.len, h.self, h.keep, h.new, h.clo, fun y hy hlt hb => ?_⟩
  rcases Nat.lt_succ_iff_lt_or_eq.1 hlt with g | rfl
  · exact h.cli y hy g hb
  · exact hk hb
theorem DfsK.step {n : Nat} {B : Nat → Nat → Bool} {c : Int} (hc : 0 ≤ c) {i k : Nat} {O O1 O2 : List Int} (hi : i < n) (hk : k < n) (h : DfsK n B c i O k O1) (hb : B i k = true) (hneg : O1.getD k 0 < 0) (g : DfsL n B c k O1 O2) : DfsK n B c i O (k + 1) O2 where
  len := g.len
  self := by rw [g.keep i hi (by rw [h.self]; exact hc), h.self]
  keep x hx h1 := by rw [g.keep x hx (by rw [h.keep x hx h1]; exact h1), h.keep x hx h1]
  new x hx h1 := by
    rcases h.new x hx h1 with g1 | ⟨g1, g2⟩
    · rcases g.new x hx g1 with g3 | ⟨g3, g4⟩
      · exact .inl g3
      · exact .inr ⟨g3, (Rch.one hi hk hb).trans g4⟩
    · exact .inr ⟨by rw [g.keep x hx (by omega), g1], g2⟩
  clo x y hx hy hne h1 h2 hb := by
    by_cases h3 : 0 ≤ O1.getD x 0
    · have := h.clo x y hx hy hne h1 h3 hb
      rw [g.keep y hy this]; exact this
    · exact g.clo x y hx hy (by omega) h2 hb
  cli y hy hlt hb := by
    rcases Nat.lt_succ_iff_lt_or_eq.1 hlt with k1 | rfl
    · have := h.cli y hy k1 hb
      rw [g.keep y hy this]; exact this
    · rw [g.self]; exact hc
theorem DfsK.final {n : Nat} {B : Nat → Nat → Bool} {c : Int} {i k : Nat} {O O' : List Int} (h : DfsK n B c i O k O') (hk : n ≤ k) : DfsL n B c i O O' where
  len := h.len
  self := h.self
  keep := h.keep
  new := h.new
  clo x y hx hy h1 h2 hb := by
    by_cases e : x = i
    · subst e; exact h.cli y hy (by omega) hb
    · exact h.clo x y hx hy e h1 h2 hb
def negs (n : Nat) (O : List Int) : Nat := (List.range n).countP fun x => decide (O.getD x 0 < 0)
theorem DfsK.negs {n : Nat} {B : Nat → Nat → Bool} {c : Int} (hc : 0 ≤ c) {i k : Nat} {O O' : List Int} (h : DfsK n B c i O k O') (hi : i < n) (h0 : O.getD i 0 < 0) : negs n O' < negs n O := by
  refine countP_lt (i := i) (fun x hx hd => ?_) (by simpa using hi) (decide_eq_true h0) (decide_eq_false (by rw [h.self]; omega))
  have hx : x < n := by simpa using hx
  have := of_decide_eq_true hd
  refine decide_eq_true (Int.not_le.1 fun hn => ?_)
  rw [h.keep x hx hn] at this
  omega
theorem negs_pos {n i : Nat} {O : List Int} (hi : i < n) (h : O.getD i 0 < 0) : 0 < negs n O := List.countP_pos_iff.2 ⟨i, by simpa using hi, decide_eq_true h⟩
theorem DfsL.newL {n : Nat} {B : Nat → Nat → Bool} (hs : ∀ x y, x < n → y < n → B x y = true → B y x = true) {i j : Nat} {c : Int} {O O' : List Int} (h : PartL n B j c O) (hi : i < n) (h0 : O.getD i 0 < 0) (g : DfsL n B c i O O') : NewL n B c i O O' where
  len := g.len
  new x hx hr := by
    have hun : ∀ x, Rch n B i x → O.getD x 0 < 0 := fun x hr => h.unl hs h0 hr
    induction hr with
    | refl => exact g.self
    | tail h1 h2 h3 h4 ih =>
      have e := ih h2
      have hc0 := h.c0
      have := g.clo _ _ h2 h3 (hun _ h1) (by omega) h4
      rcases g.new _ h3 (hun _ (.tail h1 h2 h3 h4)) with k | k
      · omega
      · exact k.1
  old x hx _ h1 := g.keep x hx h1
  neg x hx hr h1 := by
    rcases g.new x hx h1 with k | k
    · exact k
    · exact absurd k.2 hr

/-! ### The search by rounds -/
structure SpI (n : Nat) (B : Nat → Nat → Bool) (c : Int) (i : Nat) (O : List Int) (s a b : Nat) (O' : List Int) : Prop where
  len : O'.length = n
  all : ∀ x, x < n → O'.getD x 0 = O.getD x 0 ∨ (O'.getD x 0 = c ∧ Rch n B i x)
  rk : ∀ x, x < n → RchK n B s i x → O'.getD x 0 = c
  rows : ∀ z y, z < a → z < n → y < n → RchK n B s i z → B z y = true → O'.getD y 0 = c
  row : ∀ y, y < b → y < n → RchK n B s i a → B a y = true → O'.getD y 0 = c
theorem SpI.start {n : Nat} {B : Nat → Nat → Bool} {c : Int} {i : Nat} {O : List Int} (hl : O.length = n) (hi : i < n) : SpI n B c i O 0 0 0 (O.set i c) where
  len := by simpa using hl
  all x hx := by
    rw [getD_set (by omega)]
    by_cases e : x = i
    · subst e; rw [if_pos rfl]; exact .inr ⟨rfl, .refl⟩
    · rw [if_neg e]; exact .inl rfl
  rk x hx hr := by
    rw [RchK] at hr; subst hr
    rw [getD_set (by omega), if_pos rfl]
  rows z y h := by omega
  row y h := by omega
theorem SpI.skip {n : Nat} {B : Nat → Nat → Bool} {c : Int} {i s a b : Nat} {O O' : List Int} (h : SpI n B c i O s a b O') (ha : a < n) (hn : ¬ (O'.getD a 0 = c ∧ B a b = true)) : SpI n B c i O s a (b + 1) O' := by
  refine ⟨h.len, h.all, h.rk, h.rows, fun y hy hyn hr hb => ?_⟩
  rcases Nat.lt_succ_iff_lt_or_eq.1 hy with g | rfl
  · exact h.row y g hyn hr hb
  · exact absurd ⟨h.rk a ha hr, hb⟩ hn
theorem SpI.put {n : Nat} {B : Nat → Nat → Bool} {c : Int} {i s a b : Nat} {O O' : List Int} (hr : ∀ x, x < n → O.getD x 0 < c) (h : SpI n B c i O s a b O') (ha : a < n) (hb : b < n) (h1 : O'.getD a 0 = c) (h2 : B a b = true) : SpI n B c i O s a (b + 1) (O'.set b c) := by
  have hl := h.len
  have g : ∀ x, (O'.set b c).getD x 0 = if x = b then c else O'.getD x 0 := fun x => getD_set (by omega)
  have ra : Rch n B i a := by
    rcases h.all a ha with e | e
    · have := hr a ha; omega
    · exact e.2
  have hk : ∀ x, O'.getD x 0 = c → (O'.set b c).getD x 0 = c := fun x e => by
    rw [g]; split
    · rfl
    · exact e
  refine ⟨by simpa using hl, fun x hx => ?_, fun x hx hr => hk x (h.rk x hx hr), fun z y h3 h4 h5 h6 h7 => hk y (h.rows z y h3 h4 h5 h6 h7), fun y hy hyn h3 h4 => ?_⟩
  · rw [g]
    by_cases e : x = b
    · subst e; rw [if_pos rfl]; exact .inr ⟨rfl, .tail ra ha hb h2⟩
    · rw [if_neg e]; exact h.all x hx
  · rcases Nat.lt_succ_iff_lt_or_eq.1 hy with k | rfl
    · exact hk y (h.row y k hyn h3 h4)
    · rw [g, if_pos rfl]
theorem SpI.next {n : Nat} {B : Nat → Nat → Bool} {c : Int} {i s a b : Nat} {O O' : List Int} (h : SpI n B c i O s a b O') (hb : n ≤ b) : SpI n B c i O s (a + 1) 0 O' := by
  refine ⟨h.len, h.all, h.rk, fun z y h1 h2 h3 h4 h5 => ?_, fun y hy => by omega⟩
  rcases Nat.lt_succ_iff_lt_or_eq.1 h1 with g | rfl
  · exact h.rows z y g h2 h3 h4 h5
  · exact h.row y (by omega) h3 h4 h5
theorem SpI.round {n : Nat} {B : Nat → Nat → Bool} {c : Int} {i s a b : Nat} {O O' : List Int} (h : SpI n B c i O s a b O') (ha : n ≤ a) : SpI n B c i O (s + 1) 0 0 O' := by
  refine ⟨h.len, h.all, fun x hx hr => ?_, fun z y h1 => by omega, fun y h1 => by omega⟩
  rcases hr with hr | ⟨y, h1, h2, h3, h4⟩
  · exact h.rk x hx hr
  · exact h.rows y x (by omega) h1 h2 h3 h4
theorem SpI.newL {n : Nat} {B : Nat → Nat → Bool} {c : Int} {i a b : Nat} {O O' : List Int} (hi : i < n) (h : SpI n B c i O n a b O') : NewL n B c i O O' where
  len := h.len
  new x hx hr := h.rk x hx (rch_bound hi hr)
  old x hx hr _ := by
    rcases h.all x hx with e | e
    · exact e
    · exact absurd e.2 hr
  neg x hx hr h0 := by
    rcases h.all x hx with e | e
    · omega
    · exact absurd e.2 hr
open Classical in
theorem PartL.ex {n : Nat} {B : Nat → Nat → Bool} (hs : ∀ x y, x < n → y < n → B x y = true → B y x = true) : ∀ i, i ≤ n → ∃ c O, PartL n B i c O
  | 0, _ => ⟨0, _, .zero n B⟩
  | i + 1, hi => by
    obtain ⟨c, O, h⟩ := PartL.ex hs i (by omega)
    by_cases h0 : 0 ≤ O.getD i 0
    · exact ⟨c, O, h.skip h0⟩
    · have e : ∀ x, x < n → ((List.range n).map fun x => if Rch n B i x then c else O.getD x 0).getD x 0 = if Rch n B i x then c else O.getD x 0 := by
        intro x hx
        simp [hx]
      refine ⟨c + 1, _, h.step hs (by omega) (by omega) (O' := (List.range n).map fun x => if Rch n B i x then c else O.getD x 0) ⟨by simp, fun x hx hr => ?_, fun x hx hr _ => ?_, fun x hx hr h1 => ?_⟩⟩
      · rw [e x hx, if_pos hr]
      · rw [e x hx, if_neg hr]
      · rw [e x hx, if_neg hr]; exact h1
theorem comp_ok {n : Nat} {B : Nat → Nat → Bool} (hs : ∀ x y, x < n → y < n → B x y = true → B y x = true) : CompL n B (comp n B) := by
  obtain ⟨c, O, h⟩ := PartL.ex hs n (Nat.le_refl _)
  exact (h.final (Nat.le_refl _)).comp
theorem comp_congr {n : Nat} {B B' : Nat → Nat → Bool} {L L' : List Int} (h : CompL n B L) (h' : CompL n B' L') (h1 : ∀ x y, x < n → y < n → B x y = true → Rch n B' x y) (h2 : ∀ x y, x < n → y < n → B' x y = true → Rch n B x y) : comp n B = comp n B' := by
  rw [← h.eq, ← h'.eq]
  exact h.uniq h' (fun x y _ _ => ⟨fun r => r.mono h1, fun r => r.mono h2⟩)
end Go.Sh

/-
  Contracts: is it a weight matrix? Of the reference and of the program.
-/
namespace Go.Sh
set_option linter.unusedSimpArgs false
set_option linter.unusedVariables false
open Go Go.Proofs

def WM (M : List (List Int)) : Prop := (1 ≤ M.length ∧ M.length ≤ 8) ∧ (∀ i, i < M.length → (mrow M i).length = M.length) ∧ (∀ i k, i < M.length → k < M.length → (-1000 ≤ mat M i k ∧ mat M i k ≤ 1000) ∧ mat M i k = mat M k i) ∧ ∀ i, i < M.length → mat M i i = 0
open Classical in
noncomputable def isWM (M : List (List Int)) : Bool := decide (WM M)
open Classical in
theorem isWM_f {M : List (List Int)} (h : ¬ WM M) : isWM M = false := decide_eq_false h
open Classical in
theorem isWM_t {M : List (List Int)} (h : WM M) : isWM M = true := decide_eq_true h

open Classical in
theorem WM_of {M : List (List Int)} (h : isWM M = true) : WM M := by
  unfold isWM at h
  exact of_decide_eq_true h
theorem inR_not {x a b : Int} (h : inR x a b = false) : ¬ (a ≤ x ∧ x ≤ b) := by
  rintro ⟨h1, h2⟩
  rw [inR_tt h1 h2] at h
  cases h
theorem ints_get' {L : List Int} {k n : Nat} (hl : L.length = n) (h : k < n) : (ints L)[k]? = some (.val (.int .i64 (L.getD k 0))) := ints_get (by omega)

end Go.Sh

/-
  What comes in as a matrix: its measures.
-/
namespace Go.Sh
set_option linter.unusedSimpArgs false
set_option linter.unusedVariables false
open Go Go.Proofs

theorem mrow_le {M : List (List Int)} {i : Nat} (h : i < M.length) : ((mrow M i).length : Int) ≤ msum M M.length := by
  have h1 := msum_succ h
  have h2 := msum_nonneg M i
  have h3 := msum_mono (M := M) (k := i + 1) (j := M.length) (by omega) (Nat.le_refl _)
  omega
theorem mrow_max {M : List (List Int)} (hw : (∀ l ∈ M, (∀ n ∈ l, i64R n) ∧ l.length ≤ maxLen) ∧ M.length ≤ maxLen) : M.length ≤ 9223372036854775807 ∧ ∀ i, i < M.length → (mrow M i).length ≤ 9223372036854775807 := by
  refine ⟨hw.2, fun i hi => ?_⟩
  have := (hw.1 M[i] (List.getElem_mem hi)).2
  have e : mrow M i = M[i] := by simp [mrow, hi]
  rw [e]
  exact this
end Go.Sh

/-
  Contracts: a square of zeros; the components of a graph of positive weights. Of the program.
-/
namespace Go.Sh
set_option linter.unusedSimpArgs false
set_option linter.unusedVariables false
open Go Go.Proofs

def zs (n : Nat) : List (List Int) := List.replicate n (List.replicate n 0)
theorem zs_length (n : Nat) : (zs n).length = n := by simp [zs]
theorem zs_row {n i : Nat} (h : i < n) : mrow (zs n) i = List.replicate n 0 := by simp [zs, mrow, h]
theorem zs_at {n i k : Nat} : mat (zs n) i k = 0 := by
  simp only [zs, mat, mrow, List.getD_eq_getElem?_getD, List.getElem?_replicate]
  by_cases h : i < n
  · by_cases h2 : k < n <;> simp [h, h2]
  · simp [h]
def outerQ (n k : Nat) : List SV := (List.range n).map fun i => if i < k then .own (i + 1) 0 n n 1 true else .val (.slice none 0 0)
theorem outerQ_length (n k : Nat) : (outerQ n k).length = n := by simp [outerQ]
theorem outerQ_zero (n : Nat) : outerQ n 0 = List.replicate n (.val (.slice none 0 0)) := by
  apply List.ext_getElem <;> simp [outerQ]
theorem outerQ_get {n k i : Nat} (h : i < n) : (outerQ n k)[i]? = some (if i < k then .own (i + 1) 0 n n 1 true else .val (.slice none 0 0)) := by
  simp only [outerQ, List.getElem?_map]
  rw [List.getElem?_range h]; rfl
theorem outerQ_set {n k : Nat} (h : k < n) : (outerQ n k).set k (.own (k + 1) 0 n n 1 true) = outerQ n (k + 1) := by
  apply List.ext_getElem?
  intro i
  by_cases hi : i < n
  · rw [outerQ_get hi, List.getElem?_set, outerQ_length, outerQ_get hi]
    by_cases hk : k = i
    · subst hk; simp [h]
    · by_cases h1 : i < k
      · simp [hk, h1, show i < k + 1 by omega]
      · simp [hk, h1, show ¬ i < k + 1 by omega]
  · rw [List.getElem?_eq_none (by rw [List.length_set, outerQ_length]; omega), List.getElem?_eq_none (by rw [outerQ_length]; omega)]
def HQ (n k : Nat) : Heap := ⟨fun x => if x = 0 then some ⟨outerQ n k, true⟩ else if x ≤ k then some ⟨ints (List.replicate n 0), true⟩ else none, k + 1⟩
def HQp (n k : Nat) : Heap := (HQ n k).push ⟨ints (List.replicate n 0), true⟩
theorem HQ_nb (n k : Nat) : (HQ n k).nb = k + 1 := rfl
theorem HQ_map (n k : Nat) : (HQ n k).map 0 = some ⟨outerQ n k, true⟩ := rfl
theorem HQp_map (n k : Nat) : (HQp n k).map 0 = some ⟨outerQ n k, true⟩ := by
  simp only [HQp, Heap.push, HQ]
  rw [if_neg (by omega)]
  rfl
theorem HQp_set {n k : Nat} : (HQp n k).set 0 (some ⟨outerQ n (k + 1), true⟩) = HQ n (k + 1) := by
  refine Heap.ext' (fun x => ?_) rfl
  simp only [HQp, HQ, Heap.push, Heap.set]
  by_cases h0 : x = 0
  · simp [h0]
  · by_cases h1 : x = k + 1
    · simp [h1]
    · by_cases h2 : x ≤ k
      · simp [h0, h1, h2, show x ≤ k + 1 by omega]
      · simp [h0, h1, h2, show ¬ x ≤ k + 1 by omega]
theorem HQ_zero (n : Nat) : HQ n 0 = hp [(0, ⟨List.replicate n (.val (.slice none 0 0)), true⟩)] 1 := by
  refine Heap.ext' (fun x => ?_) rfl
  simp only [HQ, hp, hmap, outerQ_zero]
  by_cases h0 : x = 0
  · simp [h0]
  · simp [h0]
theorem outerQ_nr (n k : Nat) : noRowL (outerQ n k) = true := by
  unfold outerQ
  generalize List.range n = l
  induction l with
  | nil => rfl
  | cons a l ih =>
    simp only [List.map_cons, noRowL, ih, Bool.and_true]
    split <;> rfl
theorem HQ_nr (n k : Nat) : nrHeap (HQ n k) := by
  intro b blk hb
  simp only [HQ] at hb
  split at hb
  · simp at hb; subst hb; exact outerQ_nr n k
  · split at hb
    · simp at hb; subst hb; exact noRowL_ints _
    · simp at hb
theorem HQ_res (n : Nat) : MatRes (mi (zs n)) (.own 0 0 n n 1 true) (HQ n n) := by
  have hl : (mi (zs n)).length = n := by rw [mi_length, zs_length]
  refine ⟨0, 0, n, true, _, by rw [hl], HQ_map n n, by rw [hl, outerQ_length]; omega, mi_vals _, fun i => i + 1, fun _ => 0, fun i i' _ _ h => by simpa using h, fun i _ => by simp, fun i hi => ?_⟩
  rw [hl] at hi
  have hr : rowAt (mi (zs n)) i = ints (List.replicate n 0) := by rw [mi_row (by rwa [zs_length]), zs_row hi]
  refine ⟨n, true, ⟨ints (List.replicate n 0), true⟩, ?_, ?_, ?_, ?_⟩
  · rw [hr, Nat.zero_add, outerQ_get hi, if_pos hi, ints_length, List.length_replicate]
  · simp only [HQ]
    rw [if_neg (by omega), if_pos (by omega)]
  · rw [hr]; simp
  · rw [hr]; simp

def pB (M : List (List Int)) (x y : Nat) : Bool := decide (0 < mat M x y)
theorem WM.sym {M : List (List Int)} (h : WM M) : ∀ x y, x < M.length → y < M.length → pB M x y = true → pB M y x = true := by
  intro x y hx hy hb
  have := (h.2.2.1 x y hx hy).2
  rw [pB] at hb ⊢
  rw [← this]; exact hb
def fillN (n k : Nat) : List Int := List.replicate k (-1) ++ List.replicate (n - k) 0
theorem fillN_zero (n : Nat) : fillN n 0 = List.replicate n 0 := by simp [fillN]
theorem fillN_length {n k : Nat} (h : k ≤ n) : (fillN n k).length = n := by simp [fillN]; omega
theorem fillN_set {n k : Nat} (h : k < n) : (fillN n k).set k (-1) = fillN n (k + 1) := by
  apply List.ext_getElem?
  intro i
  simp [fillN, List.getElem?_set, List.getElem?_append, List.getElem?_replicate]
  grind
theorem fillN_all (n : Nat) : fillN n n = List.replicate n (-1) := by simp [fillN]

theorem Fin.imp {R R' : SV → Heap → Prop} {r : SV} {H : Heap} (h : ∀ r H, R r H → R' r H) (f : Fin R r H) : Fin R' r H := by
  obtain ⟨H2, a, b, c, d⟩ := f
  exact ⟨H2, a, b, c, h _ _ d⟩
end Go.Sh

/-
  Squares of numbers, by their entries.
-/
namespace Go.Sh
set_option linter.unusedSimpArgs false
set_option linter.unusedVariables false
open Go Go.Proofs

/-- A square of numbers. -/
def SqI (n : Nat) (M : List (List Int)) : Prop := M.length = n ∧ ∀ i, i < n → (mrow M i).length = n
theorem SqI.zs (n : Nat) : SqI n (zs n) := ⟨zs_length n, fun i h => by rw [zs_row h]; simp⟩
theorem SqI.set {n : Nat} {M : List (List Int)} (h : SqI n M) (i c : Nat) (x : Int) : SqI n (mset M i c x) := ⟨by rw [mset_length, h.1], fun k hk => by rw [mset_row_length]; exact h.2 k hk⟩
theorem SqI.ext {n : Nat} {M M' : List (List Int)} (h : SqI n M) (h' : SqI n M') (e : ∀ x y, x < n → y < n → mat M x y = mat M' x y) : M = M' := by
  refine List.ext_getElem (h.1.trans h'.1.symm) fun i h1 h2 => ?_
  have hi : i < n := by rw [← h.1]; exact h1
  have e1 : M[i] = mrow M i := by simp [mrow, h1]
  have e2 : M'[i] = mrow M' i := by simp [mrow, h2]
  rw [e1, e2]
  exact list_ext ((h.2 i hi).trans (h'.2 i hi).symm) fun k hk => e i k hi (by rw [← h.2 i hi]; exact hk)
def genM (n : Nat) (f : Nat → Nat → Int) : List (List Int) := (List.range n).map fun x => (List.range n).map fun y => f x y
theorem genM_row {n : Nat} {f : Nat → Nat → Int} {x : Nat} (h : x < n) : mrow (genM n f) x = (List.range n).map fun y => f x y := by simp [mrow, genM, h]
theorem genM_sq (n : Nat) (f : Nat → Nat → Int) : SqI n (genM n f) := ⟨by simp [genM], fun i h => by rw [genM_row h]; simp⟩
theorem genM_at {n : Nat} {f : Nat → Nat → Int} {x y : Nat} (hx : x < n) (hy : y < n) : mat (genM n f) x y = f x y := by rw [mat, genM_row hx]; simp [hy]
def bint (b : Bool) : Int := if b = true then 1 else 0
end Go.Sh

/-
  Contracts: the rows and columns of some items. Of the program.
-/
namespace Go.Sh
set_option linter.unusedSimpArgs false
set_option linter.unusedVariables false
open Go Go.Proofs

/-- Strictly ascending numbers from 0 to n - 1, in the first k places. -/
def selTo (n : Int) (S : List Int) (k : Nat) : Prop := ∀ i, i < k → (0 ≤ S.getD i 0 ∧ S.getD i 0 ≤ n - 1) ∧ (0 < i → S.getD (i - 1) 0 < S.getD i 0)
def SelP (n : Int) (S : List Int) : Prop := selTo n S S.length
open Classical in
noncomputable def isSel (n : Int) (S : List Int) : Bool := decide (SelP n S)
open Classical in
theorem isSel_t {n : Int} {S : List Int} (h : SelP n S) : isSel n S = true := decide_eq_true h
open Classical in
theorem isSel_f {n : Int} {S : List Int} (h : ¬ SelP n S) : isSel n S = false := decide_eq_false h
theorem selTo_succ {n : Int} {S : List Int} {k : Nat} (h : selTo n S k) (h1 : 0 ≤ S.getD k 0 ∧ S.getD k 0 ≤ n - 1) (h2 : 0 < k → S.getD (k - 1) 0 < S.getD k 0) : selTo n S (k + 1) := by
  intro i hi
  rcases Nat.lt_succ_iff_lt_or_eq.1 hi with g | rfl
  · exact h i g
  · exact ⟨h1, h2⟩
theorem sel_not {n : Int} {S : List Int} {k : Nat} (hk : k < S.length) (h : ¬ ((0 ≤ S.getD k 0 ∧ S.getD k 0 ≤ n - 1) ∧ (0 < k → S.getD (k - 1) 0 < S.getD k 0))) : isSel n S = false := isSel_f fun g => h (g k hk)
theorem sel_len {n : Int} {S : List Int} (h : SelP n S) : ∀ i, i < S.length → (i : Int) ≤ S.getD i 0
  | 0, hi => by have := (h 0 hi).1.1; omega
  | i + 1, hi => by
    have := sel_len h i (by omega)
    have h2 := (h (i + 1) hi).2 (by omega)
    simp only [Nat.add_sub_cancel] at h2
    omega
theorem sel_length {n : Int} {S : List Int} (h : SelP n S) (hn : 0 ≤ n) : (S.length : Int) ≤ n := by
  by_cases h0 : S.length = 0
  · omega
  · have h1 := sel_len h (S.length - 1) (by omega)
    have h2 := (h (S.length - 1) (by omega)).1.2
    omega

def subM (M : List (List Int)) (S : List Int) : List (List Int) := genM S.length fun x y => mat M (S.getD x 0).toNat (S.getD y 0).toNat
theorem subM_length (M : List (List Int)) (S : List Int) : (subM M S).length = S.length := (genM_sq _ _).1
theorem subM_row {M : List (List Int)} {S : List Int} {i : Nat} (h : i < S.length) : (mrow (subM M S) i).length = S.length := (genM_sq _ _).2 i h

end Go.Sh

/-
  Contracts: the rows and columns of some items. Of the program and of the reference.
-/
namespace Go.Sh
set_option linter.unusedSimpArgs false
set_option linter.unusedVariables false
open Go Go.Proofs

open Classical in
noncomputable def sbm (M : List (List Int)) (S : List Int) : List (List Int) := if WM M ∧ SelP M.length S then subM M S else []
theorem sbm_t {M : List (List Int)} {S : List Int} (h : WM M ∧ SelP M.length S) : sbm M S = subM M S := by rw [sbm, if_pos h]
theorem sbm_f {M : List (List Int)} {S : List Int} (h : ¬ (WM M ∧ SelP M.length S)) : sbm M S = [] := by rw [sbm, if_neg h]

theorem fin_rows0 {b cap : Nat} {ex : Bool} {H : Heap} (h1 : H.map b = some ⟨[], false⟩) : Fin (MatRes (mi [])) (.own b 0 0 cap 1 ex) H := by
  have h : EntIn (hx [.mat b []] H.nb) (.mat b []) := .self
  refine fin_mat (R := mi []) ?_ (mi_vals _) rfl
  intro x hx1 hx2
  have : x = b := by simp [mi] at hx2; omega
  subst this
  rw [h1, matMap, if_pos rfl]; rfl
theorem take_snoc {α : Type} {R : List α} {l : List α} {a : α} (h : l = R.take l.length) (hl : l.length < R.length) (ha : R[l.length]? = some a) : l ++ [a] = R.take (l ++ [a]).length := by
  have e : (l ++ [a]).length = l.length + 1 := by simp
  rw [e, List.take_add_one, ha, ← h]; rfl

end Go.Sh

/-
  Contracts: the blocks of a partition. Of the reference.
-/
namespace Go.Sh
set_option linter.unusedSimpArgs false
set_option linter.unusedVariables false
open Go Go.Proofs

end Go.Sh

/-
  FormatPartition: contracts.
-/
namespace Go.Sh
set_option linter.unusedSimpArgs false
set_option linter.unusedVariables false
open Go Go.Proofs

theorem join_snoc (xs : List (List UInt8)) (y sep : List UInt8) (h : xs ≠ []) : Lib.join (xs ++ [y]) sep = Lib.join xs sep ++ sep ++ y := by
  cases xs with
  | nil => exact absurd rfl h
  | cons x r => rw [List.cons_append, Lib.join_cons, Lib.join_cons]; simp [Lib.joinTail]
def accP (M : List (List Int)) (i : Nat) : List UInt8 := Lib.join ((M.take i).map fmtB) [124]
theorem accP_zero (M : List (List Int)) : accP M 0 = [] := rfl
theorem accP_all (M : List (List Int)) : accP M M.length = Lib.join (M.map fmtB) [124] := by rw [accP, List.take_length]
theorem take_mrow {M : List (List Int)} {i : Nat} (h : i < M.length) : M.take (i + 1) = M.take i ++ [mrow M i] := by
  rw [List.take_add_one, List.getElem?_eq_getElem h]; simp [mrow, h]
theorem accP_one {M : List (List Int)} (h : 0 < M.length) : accP M 1 = fmtB (mrow M 0) := by
  rw [accP, take_mrow (i := 0) h, List.take_zero, List.nil_append, List.map_cons, List.map_nil, Lib.join_one]
theorem accP_succ {M : List (List Int)} {i : Nat} (h : i < M.length) (h0 : 0 < i) : accP M (i + 1) = accP M i ++ [124] ++ fmtB (mrow M i) := by
  rw [accP, take_mrow h, List.map_append, List.map_cons, List.map_nil, join_snoc _ _ _ (by
    intro e
    have := congrArg List.length e
    rw [List.length_map, List.length_take, List.length_nil] at this
    omega)]
  rfl
def accR (r : List Int) (k : Nat) : List UInt8 := fmtB (r.take k)
theorem accR_zero (r : List Int) : accR r 0 = [] := rfl
theorem accR_all (r : List Int) : accR r r.length = fmtB r := by rw [accR, List.take_length]
theorem accR_succ {r : List Int} {k : Nat} (h : k < r.length) : accR r (k + 1) = accR r k ++ Lib.itoa (r.getD k 0) := by
  rw [accR, accR, fmtB_eq, fmtB_eq, List.take_add_one, List.getElem?_eq_getElem h, List.map_append, List.flatten_append]
  simp [h]
/-- Few blocks, few items, small items. -/
structure BOk (M : List (List Int)) : Prop where
  ln : M.length ≤ 8
  row : ∀ i, (mrow M i).length ≤ 8
  it : ∀ i, i < M.length → ∀ y ∈ mrow M i, ∃ x : Nat, y = x ∧ x < 8
theorem BOk.of (L : List Int) : BOk (blocksOf L) := by
  cases h : isPart L with
  | false => rw [blocksOf_f h]; exact ⟨by simp, fun i => by simp [mrow], fun i hi => by simp at hi⟩
  | true =>
    obtain ⟨h1, h2, h3, h4⟩ := part_blk h
    rw [blocksOf_t h]
    refine ⟨h2, fun i => by have := blkTo_row L L.length i; omega, fun i hi => h4 _ ?_⟩
    simp [mrow, hi]
theorem BOk.accR_le {M : List (List Int)} (h : BOk M) {i : Nat} (hi : i < M.length) (k : Nat) : (accR (mrow M i) k).length ≤ 8 := by
  rw [accR, (fmtB_no fun y hy => h.it i hi y (List.mem_of_mem_take hy)).2, List.length_take]
  have := h.row i
  omega
theorem BOk.fmtB_le {M : List (List Int)} (h : BOk M) {i : Nat} (hi : i < M.length) : (fmtB (mrow M i)).length ≤ 8 := by
  rw [← accR_all]; exact h.accR_le hi _
theorem BOk.accP_le {M : List (List Int)} (h : BOk M) : ∀ {i : Nat}, i ≤ M.length → (accP M i).length ≤ 9 * i
  | 0, _ => by simp [accP_zero]
  | i + 1, hi => by
    have ih := h.accP_le (i := i) (by omega)
    have h8 := h.fmtB_le (i := i) (by omega)
    cases i with
    | zero => rw [accP_one (by omega)]; omega
    | succ i => rw [accP_succ (by omega) (by omega)]; simp; omega
theorem BOk.at {M : List (List Int)} (h : BOk M) {i k : Nat} (hi : i < M.length) (hk : k < (mrow M i).length) : ∃ x : Nat, (mrow M i).getD k 0 = x ∧ x < 8 := h.it i hi _ (by simp [hk])

end Go.Sh

/-
  FormatScoring: contracts; the law walked.
-/
namespace Go.Sh
set_option linter.unusedSimpArgs false
set_option linter.unusedVariables false
open Go Go.Proofs

def fmtS (W : List Int) (b : Int) : List UInt8 := if isSc W b = true then fmtB W ++ [45] ++ Lib.itoa b else []
theorem isSc_facts {W : List Int} {b : Int} (h : isSc W b = true) : W.length = 6 ∧ (∀ i, i < W.length → ∃ x : Nat, W.getD i 0 = x ∧ x ≤ 9) ∧ 0 ≤ b ∧ b ≤ 1000 := by
  simp only [isSc, Bool.and_eq_true, decide_eq_true_eq] at h
  obtain ⟨h1, h2, h3, h4⟩ := h
  have := inR_of h4
  refine ⟨h2, fun i hi => ?_, this.1, this.2⟩
  have h5 := List.all_eq_true.1 h1 (W.getD i 0) (by simp [hi])
  have := inR_of h5
  exact ⟨(W.getD i 0).toNat, by omega, by omega⟩
theorem accR_len {r : List Int} (h : ∀ i, i < r.length → ∃ x : Nat, r.getD i 0 = x ∧ x ≤ 9) : ∀ k, k ≤ r.length → (accR r k).length = k
  | 0, _ => rfl
  | k + 1, hk => by
    obtain ⟨x, hx, hx9⟩ := h k (by omega)
    rw [accR_succ (by omega), List.length_append, accR_len h k (by omega), hx, itoa_small (by omega)]; rfl
set_option maxHeartbeats 4000000 in
theorem Tryz.implFS_ok (W : List Int) (b : Int) (hW : W.length ≤ 1048576) : PCall Tryz.prog 16 [sS W b] (str (fmtS W b)) := by
  have w := Tryz.implSc_ok W b hW
  have lC := ints_length W
  refine FCall.pcall (R := fun r _ => r = str (fmtS W b)) ?_ 0 (by rintro r H rfl; exact view_str)
  refine FCall.of_body Tryz.func16 rfl (by kernel_rfl) (by simp [Tryz.ntmps16]) ?_
  refine SW_of_vc Tryz.mixed _ _ _ (by kernel_rfl) ?_
  cases he : isSc W b with
  | false =>
    rw [he] at w
    simp (disch := omega) only [Tryz.ntmps16, Tryz.results16, go_sem]
    refine w.callV 1 (viewL_cons_of view_sS viewL_nil_of) ?_
    simp (disch := omega) only [Tryz.ntmps16, Tryz.results16, go_sem]
    exact Fin.val (by rw [fmtS, he]; rfl)
  | true =>
    rw [he] at w
    obtain ⟨h6, hit, hb0, hb1⟩ := isSc_facts he
    have hal := accR_len hit W.length (Nat.le_refl _)
    rw [accR_all] at hal
    have wJ : PCall Tryz.prog 37 [ri W, str []] (str (fmtB W)) := Tryz.joinInts_ok W [] hW (fun i hi => by
      obtain ⟨x, hx, hx8⟩ := hit i hi
      rw [hx]
      exact Tryz.implFI_ok x (by omega) (by omega)) (by show (fmtB W).length ≤ _; omega)
    have hw := Tryz.implFI_ok b (by omega) (by omega)
    have hil := itoa_le (n := b) (by omega) (by omega)
    simp (disch := omega) only [Tryz.ntmps16, Tryz.results16, go_sem]
    refine w.callV 1 (viewL_cons_of view_sS viewL_nil_of) ?_
    simp (disch := omega) only [Tryz.ntmps16, Tryz.results16, go_sem]
    refine wJ.callDV 0 (viewL_cons_of view_row (viewL_cons_of view_str viewL_nil_of)) ?_
    simp (disch := omega) only [Tryz.ntmps16, Tryz.results16, go_sem, List.length_append, List.length_singleton, List.length_cons, List.length_nil]
    refine hw.callDV 0 (viewL_cons_of (view_int) viewL_nil_of) ?_
    simp (disch := omega) only [Tryz.ntmps16, Tryz.results16, go_sem, List.length_append, List.length_singleton, List.length_cons, List.length_nil]
    exact Fin.val (by rw [fmtS, he]; simp)
end Go.Sh

/-
  Numbers read as text: plain law.
-/
namespace Go.Sh
set_option linter.unusedSimpArgs false
set_option linter.unusedVariables false
open Go Go.Proofs

def dgt (c : UInt8) : Bool := decide (48 ≤ c.toNat ∧ c.toNat ≤ 57)
def dstep (a : Nat) (c : UInt8) : Nat := if dgt c = true then a * 10 + (c.toNat - 48) else a
def dval (s : List UInt8) : Nat := s.foldl dstep 0
def dcnt (s : List UInt8) : Nat := s.countP dgt
def nval (s : List UInt8) : Int := if s.head? = some 45 then -(dval s : Int) else dval s
/-- The number of at most 9 digits that a text spells. -/
def pint (s : List UInt8) : Option Int := if dcnt s ≤ 9 ∧ s.length ≤ 10 ∧ Lib.itoa (nval s) = s then some (nval s) else none

theorem dgt_of {k : Nat} (h : k < 10) : dgt (UInt8.ofNat (48 + k)) = true := by
  have e : (UInt8.ofNat (48 + k)).toNat = 48 + k := by rw [UInt8.toNat_ofNat']; omega
  simp only [dgt, e]; simp; omega
theorem dstep_of {a k : Nat} (h : k < 10) : dstep a (UInt8.ofNat (48 + k)) = a * 10 + k := by
  have e : (UInt8.ofNat (48 + k)).toNat = 48 + k := by rw [UInt8.toNat_ofNat']; omega
  rw [dstep, if_pos (dgt_of h), e]; omega
theorem decDigits_facts (u : Nat) : (∀ c ∈ Lib.decDigits u, dgt c = true) ∧ dval (Lib.decDigits u) = u ∧ Lib.decDigits u ≠ [] := by
  induction u using Nat.strongRecOn with
  | _ u ih =>
    by_cases h : u < 10
    · rw [Lib.decDigits, dif_pos h]
      refine ⟨fun c hc => ?_, ?_, by simp⟩
      · rw [List.mem_singleton] at hc; rw [hc]; exact dgt_of h
      · show dstep 0 _ = u
        rw [dstep_of h]; omega
    · rw [Lib.decDigits, dif_neg h]
      obtain ⟨h1, h2, h3⟩ := ih (u / 10) (by omega)
      refine ⟨fun c hc => ?_, ?_, by simp⟩
      · rcases List.mem_append.1 hc with hc | hc
        · exact h1 c hc
        · rw [List.mem_singleton] at hc; rw [hc]; exact dgt_of (by omega)
      · rw [dval, List.foldl_append, ← dval, h2]
        show dstep (u / 10) _ = u
        rw [dstep_of (by omega)]; omega
theorem dval_minus (s : List UInt8) : dval (45 :: s) = dval s := by
  show List.foldl dstep (dstep 0 45) s = _
  rw [show dstep 0 45 = 0 by decide]; rfl
theorem head_dgt {s : List UInt8} (h : ∀ c ∈ s, dgt c = true) : s.head? ≠ some 45 := by
  cases s with
  | nil => simp
  | cons c r =>
    intro e
    have := h c (by simp)
    simp only [List.head?_cons, Option.some.injEq] at e
    rw [e] at this
    exact absurd this (by decide)
theorem nval_itoa (n : Int) : nval (Lib.itoa n) = n := by
  unfold Lib.itoa
  split
  · obtain ⟨h1, h2, h3⟩ := decDigits_facts n.natAbs
    rw [nval, if_pos List.head?_cons, dval_minus, h2]; omega
  · obtain ⟨h1, h2, h3⟩ := decDigits_facts n.toNat
    rw [nval, if_neg (head_dgt h1), h2]; omega
theorem itoa_inj {n m : Int} (h : Lib.itoa n = Lib.itoa m) : n = m := by rw [← nval_itoa n, h, nval_itoa]
theorem dval_lt_aux : ∀ (s : List UInt8) (a : Nat), List.foldl dstep a s < (a + 1) * 10 ^ dcnt s
  | [], a => by simp [dcnt]
  | c :: r, a => by
    have ih := dval_lt_aux r (dstep a c)
    rw [List.foldl_cons]
    refine Nat.lt_of_lt_of_le ih ?_
    unfold dstep dcnt
    rw [List.countP_cons]
    split
    · rename_i h
      have hc : c.toNat ≤ 57 := by
        simp only [dgt, decide_eq_true_eq] at h
        exact h.2
      show _ ≤ (a + 1) * 10 ^ (List.countP dgt r + 1)
      rw [Nat.pow_succ, ← Nat.mul_assoc, Nat.mul_right_comm]
      exact Nat.mul_le_mul_right _ (by omega)
    · exact Nat.mul_le_mul_left _ (Nat.pow_le_pow_right (by omega) (by omega))
theorem dval_lt (s : List UInt8) : dval s < 10 ^ dcnt s := by
  have := dval_lt_aux s 0
  simpa [dval] using this
theorem pow10_le {k m : Nat} (h : k ≤ m) : 10 ^ k ≤ 10 ^ m := Nat.pow_le_pow_right (by omega) h
theorem pint_some {s : List UInt8} {n : Int} (h : pint s = some n) : Lib.itoa n = s ∧ -999999999 ≤ n ∧ n ≤ 999999999 := by
  rw [pint] at h
  split at h
  · rename_i hh
    obtain ⟨h1, h2, h3⟩ := hh
    obtain rfl := Option.some.inj h
    refine ⟨h3, ?_⟩
    have h4 := dval_lt s
    have h5 := pow10_le h1
    unfold nval
    split <;> omega
  · cases h
theorem nDigits_le {u k : Nat} (hk : 1 ≤ k) (h : u < 10 ^ k) : Lib.nDigits u ≤ k := by
  induction k generalizing u with
  | zero => omega
  | succ k ih =>
    by_cases h1 : u < 10
    · rw [Lib.nDigits_small h1]; omega
    · rw [Lib.nDigits_big h1]
      rw [Nat.pow_succ] at h
      cases k with
      | zero => simp at h; omega
      | succ k =>
        have := ih (u := u / 10) (by omega) (by omega)
        omega
theorem dcnt_dgs {s : List UInt8} (h : ∀ c ∈ s, dgt c = true) : dcnt s = s.length := List.countP_eq_length.2 h
theorem itoa_shape (n : Int) (h0 : -999999999 ≤ n) (h1 : n ≤ 999999999) : dcnt (Lib.itoa n) ≤ 9 ∧ (Lib.itoa n).length ≤ 10 := by
  unfold Lib.itoa
  split
  · obtain ⟨g1, g2, g3⟩ := decDigits_facts n.natAbs
    have hl := Lib.decDigits_length n.natAbs
    have h9 := nDigits_le (u := n.natAbs) (k := 9) (by omega) (by omega)
    have hc := dcnt_dgs g1
    refine ⟨?_, ?_⟩
    · rw [dcnt, List.countP_cons, ← dcnt, hc]
      have : dgt 45 = false := by decide
      rw [this]; simp; omega
    · rw [List.length_cons]; omega
  · obtain ⟨g1, g2, g3⟩ := decDigits_facts n.toNat
    have hl := Lib.decDigits_length n.toNat
    have h9 := nDigits_le (u := n.toNat) (k := 9) (by omega) (by omega)
    have hc := dcnt_dgs g1
    omega
theorem pint_itoa {n : Int} (h0 : -999999999 ≤ n) (h1 : n ≤ 999999999) : pint (Lib.itoa n) = some n := by
  obtain ⟨a, b⟩ := itoa_shape n h0 h1
  rw [pint, nval_itoa, if_pos ⟨a, b, rfl⟩]
theorem pint_of {s : List UInt8} {n : Int} (h : Lib.itoa n = s) (h0 : -999999999 ≤ n) (h1 : n ≤ 999999999) : pint s = some n := by rw [← h]; exact pint_itoa h0 h1
theorem parse_dgs : ∀ (l : List UInt8) (a : Nat), (∀ c ∈ l, dgt c = true) → (a + 1) * 10 ^ l.length ≤ 1000000000 → Lib.parseUint10 a l = .ok (List.foldl dstep a l)
  | [], a, _, _ => rfl
  | c :: r, a, h, hb => by
    have hc := h c (by simp)
    have hc' := hc
    simp only [dgt, decide_eq_true_eq] at hc'
    have hp : 1 ≤ 10 ^ r.length := Nat.one_le_pow _ _ (by omega)
    rw [List.length_cons, Nat.pow_succ] at hb
    have hb2 : ((a * 10 + (c.toNat - 48)) + 1) * 10 ^ r.length ≤ 1000000000 := by
      refine Nat.le_trans ?_ hb
      rw [Nat.mul_comm (10 ^ r.length) 10, ← Nat.mul_assoc]
      exact Nat.mul_le_mul_right _ (by omega)
    have hs : a * 10 + (c.toNat - 48) + 1 ≤ 1000000000 := Nat.le_trans (Nat.le_mul_of_pos_right _ hp) hb2
    rw [Lib.parseUint10, if_pos hc', if_neg (by omega), if_neg (by omega), parse_dgs r _ (fun d hd => h d (by simp [hd])) hb2, List.foldl_cons]
    congr 2
    rw [dstep, if_pos hc]
theorem parseMag_dec (u : Nat) (h : u ≤ 999999999) : Lib.parseMag (Lib.decDigits u) = .ok u := by
  obtain ⟨g1, g2, g3⟩ := decDigits_facts u
  have hl := Lib.decDigits_length u
  have h9 := nDigits_le (u := u) (k := 9) (by omega) (by omega)
  rw [Lib.parseMag, if_neg g3, parse_dgs _ 0 g1 (by
    have := pow10_le (k := (Lib.decDigits u).length) (m := 9) (by omega)
    omega)]
  show Lib.NumEnd.ok (dval _) = _
  rw [g2]
theorem atoiAll_itoa {n : Int} (h0 : -999999999 ≤ n) (h1 : n ≤ 999999999) : Lib.atoiAll (Lib.itoa n) = .ok n := by
  unfold Lib.itoa
  split
  · show (match Lib.parseMag (if (45 : UInt8).toNat = 43 ∨ (45 : UInt8).toNat = 45 then Lib.decDigits n.natAbs else _) with | .syntax => _ | .range => _ | .ok u => _) = _
    rw [if_pos (by decide), parseMag_dec _ (by omega)]
    show (if ¬ (45 : UInt8).toNat = 45 ∧ _ then _ else if (45 : UInt8).toNat = 45 ∧ 9223372036854775808 < n.natAbs then _ else Lib.NumEnd.ok (if (45 : UInt8).toNat = 45 then -(n.natAbs : Int) else _)) = _
    rw [if_neg (by simp), if_neg (by omega), if_pos (by decide)]
    congr 1; omega
  · obtain ⟨g1, g2, g3⟩ := decDigits_facts n.toNat
    have hm := parseMag_dec n.toNat (by omega)
    generalize Lib.decDigits n.toNat = l at *
    cases l with
    | nil => exact absurd rfl g3
    | cons c r =>
      have hc := g1 c (by simp)
      simp only [dgt, decide_eq_true_eq] at hc
      unfold Lib.atoiAll
      simp only
      rw [if_neg (by omega), hm]
      simp only
      rw [if_neg (by omega), if_neg (by omega), if_neg (by omega)]
      congr 1; omega
theorem pint_nil : pint [] = none := by
  rw [pint, if_neg]
  rintro ⟨_, _, h⟩
  have e : Lib.itoa (nval []) = [48] := by
    show Lib.itoa 0 = _
    rw [Lib.itoa, if_neg (by decide), Lib.decDigits, dif_pos (by decide)]; decide
  rw [e] at h; cases h
/-- What a program that reads with Atoi finds. -/
theorem pint_none {s : List UInt8} (h : ∀ n, Lib.atoiAll s = .ok n → Lib.itoa n = s → -999999999 ≤ n → n ≤ 999999999 → False) : pint s = none := by
  cases hp : pint s with
  | none => rfl
  | some n =>
    obtain ⟨h1, h2, h3⟩ := pint_some hp
    exact (h n (by rw [← h1]; exact atoiAll_itoa h2 h3) h1 h2 h3).elim
end Go.Sh

/-
  Strings cut at a byte: contracts.
-/
namespace Go.Sh
set_option linter.unusedSimpArgs false
set_option linter.unusedVariables false
open Go Go.Proofs

theorem Tryz.count_ok (s : List UInt8) (c : UInt8) : PCall Tryz.prog 72 [str s, str [c]] (.val (.int .i64 (s.count c))) := by
  refine ⟨⟨_, Tryz.func72, rfl, rfl⟩, fun w vs hl _ => ?_⟩
  simp only [LRel, VRel] at hl
  obtain ⟨v, rest, rfl, rfl, v2, rest2, rfl, rfl, rfl⟩ := hl
  refine (Tryz.strings_Count_one (sb s) c w).mono ?_
  rintro e w' ⟨rfl, rfl⟩
  refine ⟨_, rfl, RowKit.Below.refl _ _, ?_⟩
  simp only [VRel, sb_data]; rfl
theorem Tryz.index_ok (s : List UInt8) (c : UInt8) : PCall Tryz.prog 73 [str s, str [c]] (.val (.int .i64 (Lib.indexByte s c))) := by
  refine ⟨⟨_, Tryz.func73, rfl, rfl⟩, fun w vs hl _ => ?_⟩
  simp only [LRel, VRel] at hl
  obtain ⟨v, rest, rfl, rfl, v2, rest2, rfl, rfl, rfl⟩ := hl
  refine (Tryz.strings_Index_one (sb s) c w).mono ?_
  rintro e w' ⟨rfl, rfl⟩
  refine ⟨_, rfl, RowKit.Below.refl _ _, ?_⟩
  simp only [VRel, sb_data]
theorem cutL_idx (s : List UInt8) (c : UInt8) : (Lib.indexByte s c = -1 ∧ cutL c s = [s]) ∨ ∃ m : Nat, Lib.indexByte s c = m ∧ m < s.length ∧ cutL c s = s.take m :: cutL c (s.drop (m + 1)) := by
  have hge := Lib.indexByte_ge s c
  by_cases h : Lib.indexByte s c = -1
  · refine .inl ⟨h, cutL_last fun k hk e => ?_⟩
    refine Lib.indexByte_none h k ?_
    rw [List.getElem?_eq_getElem hk, ← e]; simp [hk]
  · obtain ⟨m, hm⟩ := Int.eq_ofNat_of_zero_le (a := Lib.indexByte s c) (by omega)
    obtain ⟨h1, h2⟩ := Lib.indexByte_some hm
    have hl : m < s.length := by
      rcases Nat.lt_or_ge m s.length with g | g
      · exact g
      · rw [List.getElem?_eq_none g] at h1; cases h1
    refine .inr ⟨m, hm, hl, cutL_first hl (by simpa [hl] using h1) fun k hk e => h2 k hk ?_⟩
    rw [List.getElem?_eq_getElem (by omega), ← e]; simp [show k < s.length by omega]
/-- What is cut, and what is left. -/
theorem count_drop (s : List UInt8) (c : UInt8) (h : 0 < s.count c) : ∃ m : Nat, Lib.indexByte s c = m ∧ m < s.length ∧ cutL c s = s.take m :: cutL c (s.drop (m + 1)) ∧ (s.drop (m + 1)).count c + 1 = s.count c := by
  rcases cutL_idx s c with ⟨_, e⟩ | ⟨m, h1, h2, h3⟩
  · have := cutL_len c s
    rw [e] at this
    simp at this; omega
  · refine ⟨m, h1, h2, h3, ?_⟩
    have g1 := cutL_len c s
    have g2 := cutL_len c (s.drop (m + 1))
    rw [h3, List.length_cons, g2] at g1
    omega
/-- The pieces in their places, empty strings behind them. -/
def slots (P : List (List UInt8)) (n : Nat) : List (List UInt8) := P ++ List.replicate (n - P.length) []
theorem slots_length {P : List (List UInt8)} {n : Nat} (h : P.length ≤ n) : (slots P n).length = n := by simp [slots]; omega
theorem slots_set {P : List (List UInt8)} {n : Nat} (x : List UInt8) (h : P.length < n) : (slots P n).set P.length x = slots (P ++ [x]) n := by
  rw [slots, slots, List.set_append_right _ _ (Nat.le_refl _), Nat.sub_self]
  have e : n - P.length = (n - (P ++ [x]).length) + 1 := by simp; omega
  rw [e, List.replicate_succ]; simp
theorem strs_vals (L : List (List UInt8)) : (strs L).all isVal = true := by simp [strs, isVal]
theorem fin_strs {L : List (List UInt8)} {b n cap : Nat} {ex e2 : Bool} {H : Heap} (hn : n = L.length) (hb : H.map b = some ⟨strs L, e2⟩) : Fin (FlatRes L.length 1 (strs L)) (.own b 0 n cap 1 ex) H := by
  subst hn
  obtain ⟨H2, h1, _, h3, h4⟩ := flat_fin (ex := ex) (cap := cap) (n := L.length) (z := 1) (by rw [strs_length, Nat.mul_one]) (strs_vals L) hb
  exact ⟨H2, h1, rfl, h3, h4⟩
theorem flat_viewS {L : List (List UInt8)} {r : SV} {H : Heap} (h : FlatRes L.length 1 (strs L) r H) : view H 1 r = some (rst L) := by
  obtain ⟨b, off, cap, ex, blk, rfl, h1, h2, h3, _⟩ := h
  rw [Nat.mul_one] at h2 h3
  simp only [Sh.view, h1, Nat.mul_one, h2, h3, if_true, viewL_strs, rst]
set_option maxHeartbeats 4000000 in
theorem Tryz.genSplit_f (s : List UInt8) (c : UInt8) (hs : s.length ≤ 1048576) : FCall Tryz.prog 56 [str s, str [c], .val (.int .i64 0), .val (.int .i64 (-1))] (FlatRes (cutL c s).length 1 (strs (cutL c s))) := by
  have w := Tryz.count_ok s c
  have hcl : s.count c ≤ s.length := List.count_le_length
  have hlen := cutL_len c s
  have hcn : ([c] == ([] : List UInt8)) = false := rfl
  generalize hN : s.count c = N at *
  refine FCall.of_body Tryz.func56 rfl (by kernel_rfl) (by simp [Tryz.ntmps56]) ?_
  refine SW_of_vc Tryz.mixed _ _ _ (by kernel_rfl) ?_
  simp (disch := omega) only [Tryz.ntmps56, Tryz.results56, go_sem, hcn]
  refine w.callV 0 (viewL_cons_of view_str (viewL_cons_of view_str viewL_nil_of)) ?_
  have hnat : ((N : Int) + 1).toNat = N + 1 := by omega
  have hsub : (N : Int) + 1 - 1 = N := by omega
  simp (disch := omega) only [Tryz.ntmps56, Tryz.results56, go_sem, hnat, hsub]
  refine LoopW.loop (fun p : Nat × List UInt8 × List (List UInt8) => ⟨ofL [(0, str p.2.1), (1, str [c]), (2, .val (.int .i64 0)), (3, .val (.int .i64 N)), (9, .own 0 0 (N + 1) (N + 1) 1 true), (10, .val (.int .i64 p.1))], hp [(0, ⟨strs (slots p.2.2 (N + 1)), true⟩)] 1⟩)
    (fun p => p.1 ≤ N ∧ p.2.2.length = p.1 ∧ cutL c s = p.2.2 ++ cutL c p.2.1 ∧ p.2.1.count c + p.1 = N ∧ p.2.1.length ≤ 1048576) (fun p => N - p.1) (0, s, []) ⟨by simp, rfl, rfl, by simpa using hN, hs⟩
    (Wk.of (by simp only [go_sem, ↓List.forall_mem_cons, List.not_mem_nil, false_implies, implies_true, and_true, true_and, and_self, ri_eq, Int.natCast_add, Int.cast_ofNat_Int]; try simp) (by simp only [slots, List.nil_append, List.length_nil, Nat.sub_zero, ← strs_replicate])) ?_
  rintro ⟨k, t, P⟩ ⟨hk, hP, hc, hcnt, ht⟩
  simp only at hk hP hc hcnt ht
  have hsl : (slots P (N + 1)).length = N + 1 := slots_length (by omega)
  refine SW_of_vc Tryz.mixed _ _ _ (by kernel_rfl) ?_
  by_cases hlt : k < N
  · obtain ⟨m, m1, m2, m3, m4⟩ := count_drop t c (by omega)
    have wi := Tryz.index_ok t c
    rw [m1] at wi
    have hset := slots_set (P := P) (n := N + 1) (t.take m) (by omega)
    rw [hP] at hset
    simp (disch := omega) only [Tryz.ntmps56, Tryz.results56, go_sem]
    refine wi.callV 0 (viewL_cons_of view_str (viewL_cons_of view_str viewL_nil_of)) ?_
    have t1 : ((m : Int) + 0).toNat = m := by omega
    have t2 : ((m : Int) + ((1 : Nat) : Int)).toNat = m + 1 := by omega
    have t3 : (t.drop (m + 1)).take (t.length - (m + 1)) = t.drop (m + 1) := List.take_of_length_le (by rw [List.length_drop]; exact Nat.le_refl _)
    simp (disch := omega) only [Tryz.ntmps56, Tryz.results56, go_sem, strs_length, strs_set, hsl, t1, t2, t3, hset]
    exact ⟨(k + 1, t.drop (m + 1), P ++ [t.take m]), ⟨hlt, by simp [hP], by rw [hc, m3]; simp, by simp only; omega, by simp only [List.length_drop]; omega⟩, by simp only; omega, Wk.of (by simp only [go_sem, ↓List.forall_mem_cons, List.not_mem_nil, false_implies, implies_true, and_true, true_and, and_self, ri_eq, Int.natCast_add, Int.cast_ofNat_Int]; try simp) rfl⟩
  · obtain rfl : k = N := by omega
    have hone : cutL c t = [t] := by
      rcases cutL_idx t c with ⟨_, e⟩ | ⟨m, h1, h2, h3⟩
      · exact e
      · have := cutL_len c t
        have g2 := cutL_len c (t.drop (m + 1))
        rw [h3, List.length_cons] at this
        omega
    have hset := slots_set (P := P) (n := k + 1) t (by omega)
    rw [hP] at hset
    have hall : slots (P ++ [t]) (k + 1) = cutL c s := by rw [hc, hone, slots]; simp [hP]
    rw [hall] at hset
    simp (disch := omega) only [Tryz.ntmps56, Tryz.results56, go_sem, strs_length, strs_set, hsl, hset, hnat]
    exact fin_strs hlen.symm (by first | rfl | (simp (disch := omega) only [hx_map, hp_map, xmap_blk, hmap_cons, xmap_skipI, xmap_nil, if_pos, if_neg, ↓reduceIte]; try rfl))
theorem Tryz.split_f (s : List UInt8) (c : UInt8) (hs : s.length ≤ 1048576) : FCall Tryz.prog 35 [str s, str [c]] (FlatRes (cutL c s).length 1 (strs (cutL c s))) := by
  have w := (Tryz.genSplit_f s c hs).one
  refine FCall.of_body Tryz.func35 rfl (by kernel_rfl) (by simp [Tryz.ntmps35]) ?_
  refine SW_of_vc Tryz.mixed _ _ _ (by kernel_rfl) ?_
  simp (disch := omega) only [Tryz.ntmps35, Tryz.results35, go_sem]
  refine w.callOne (strs_vals _) 0 (viewL_cons_of view_str (viewL_cons_of view_str (viewL_cons_of view_int (viewL_cons_of view_int viewL_nil_of)))) ?_
  simp (disch := omega) only [Tryz.ntmps35, Tryz.results35, go_sem]
  exact fin_strs rfl (by first | rfl | (simp (disch := omega) only [hx_map, hp_map, xmap_blk, hmap_cons, xmap_skipI, xmap_nil, if_pos, if_neg, ↓reduceIte]; try rfl))
theorem Tryz.split_ok (s : List UInt8) (c : UInt8) (hs : s.length ≤ 1048576) : PCall Tryz.prog 35 [str s, str [c]] (rst (cutL c s)) :=
  (Tryz.split_f s c hs).pcall 1 (fun _ _ h => flat_viewS h)
end Go.Sh

/-
  Scorings read back from their text: plain law.
-/
namespace Go.Sh
set_option linter.unusedSimpArgs false
set_option linter.unusedVariables false
open Go Go.Proofs

def sW (t : List UInt8) : List Int := (t.take 6).map fun c => (c.toNat : Int) - 48
def sB (t : List UInt8) : Int := if 6 < t.length then (pint (t.drop 7)).getD 0 else 0
/-- The scoring that a text spells. -/
def psc (t : List UInt8) : Option (List Int × Int) := if t ≠ [] ∧ fmtS (sW t) (sB t) = t then some (sW t, sB t) else none
theorem digs_of {W : List Int} (h : ∀ i, i < W.length → ∃ x : Nat, W.getD i 0 = x ∧ x ≤ 9) : (fmtB W).length = W.length ∧ (fmtB W).map (fun c => (c.toNat : Int) - 48) = W ∧ (45 : UInt8) ∉ fmtB W := by
  induction W with
  | nil => exact ⟨by simp [fmtB, Lib.join_nil], by simp [fmtB, Lib.join_nil], by simp [fmtB, Lib.join_nil]⟩
  | cons y W ih =>
    obtain ⟨x, hx, hx9⟩ := h 0 (by simp)
    simp only [List.getD_cons_zero] at hx
    subst hx
    obtain ⟨h1, h2, h3⟩ := ih fun i hi => by
      have := h (i + 1) (by simpa using hi)
      simpa using this
    rw [fmtB_cons (by omega)]
    refine ⟨by simp [h1], ?_, fun hm => ?_⟩
    · rw [List.map_cons, h2, ch_nat (by omega)]
      congr 1; omega
    · rcases List.mem_cons.1 hm with e | hm
      · have := congrArg UInt8.toNat e
        rw [ch_nat (by omega)] at this
        simp at this; omega
      · exact h3 hm
theorem fmtS_parts {W : List Int} {b : Int} {t : List UInt8} (h : fmtS W b = t) (h0 : t ≠ []) : isSc W b = true ∧ t = fmtB W ++ 45 :: Lib.itoa b := by
  rw [fmtS] at h
  split at h
  · rename_i hs
    refine ⟨hs, ?_⟩
    rw [← h]; simp
  · exact absurd h.symm h0
theorem psc_fmt {W : List Int} {b : Int} {t : List UInt8} (h : fmtS W b = t) (h0 : t ≠ []) : psc t = some (W, b) := by
  obtain ⟨hs, ht⟩ := fmtS_parts h h0
  obtain ⟨h6, hit, hb0, hb1⟩ := isSc_facts hs
  obtain ⟨d1, d2, _⟩ := digs_of hit
  have e1 : sW t = W := by
    rw [sW, ht, List.take_left' (by omega), d2]
  have e2 : sB t = b := by
    rw [sB, ht, if_pos (by rw [List.length_append, List.length_cons]; omega)]
    have : (fmtB W ++ 45 :: Lib.itoa b).drop 7 = Lib.itoa b := by
      rw [List.drop_append, List.drop_eq_nil_of_le (by omega), d1, h6]; rfl
    rw [this, pint_itoa (by omega) (by omega)]; rfl
  rw [psc, e1, e2, if_pos ⟨h0, h⟩]
theorem psc_some {t : List UInt8} {W : List Int} {b : Int} (h : psc t = some (W, b)) : t ≠ [] ∧ fmtS W b = t ∧ sW t = W ∧ sB t = b := by
  rw [psc] at h
  split at h
  · rename_i hh
    simp only [Option.some.injEq, Prod.mk.injEq] at h
    rw [h.1, h.2] at hh
    exact ⟨hh.1, hh.2, h.1, h.2⟩
  · cases h
/-- What strings.Cut gives at a byte. -/
def cut2 (c : UInt8) (s : List UInt8) : List UInt8 × List UInt8 × Bool :=
  if 0 ≤ Lib.indexByte s c then (s.take (Lib.indexByte s c).toNat, s.drop ((Lib.indexByte s c).toNat + 1), true) else (s, [], false)
theorem cut2_app {c : UInt8} {p q : List UInt8} (h : c ∉ p) : cut2 c (p ++ c :: q) = (p, q, true) := by
  have key : Lib.indexByte (p ++ c :: q) c = p.length := by
    have hge := Lib.indexByte_ge (p ++ c :: q) c
    by_cases hn : Lib.indexByte (p ++ c :: q) c = -1
    · have := Lib.indexByte_none hn p.length
      simp at this
    · obtain ⟨m, hm⟩ := Int.eq_ofNat_of_zero_le (a := Lib.indexByte (p ++ c :: q) c) (by omega)
      obtain ⟨h1, h2⟩ := Lib.indexByte_some hm
      have g1 : ¬ m < p.length := fun hlt => by
        rw [List.getElem?_append_left hlt] at h1
        exact h (List.mem_of_getElem? h1)
      have g2 : ¬ p.length < m := fun hlt => h2 _ hlt (by simp)
      rw [hm]; omega
  rw [cut2, key, if_pos (by omega)]
  simp
/-- What the program reads: none at a text that spells no scoring. -/
theorem psc_num {t : List UInt8} (h : pint (cut2 45 t).2.1 = none) : psc t = none := by
  cases hp : psc t with
  | none => rfl
  | some q =>
    obtain ⟨W, b⟩ := q
    obtain ⟨h0, h1, _⟩ := psc_some hp
    obtain ⟨hs, ht⟩ := fmtS_parts h1 h0
    obtain ⟨h6, hit, hb0, hb1⟩ := isSc_facts hs
    obtain ⟨_, _, d3⟩ := digs_of hit
    rw [ht, cut2_app d3, pint_itoa (by omega) (by omega)] at h
    cases h
theorem psc_cut {t : List UInt8} {n : Int} (h : pint (cut2 45 t).2.1 = some n) : psc t = if fmtS ((cut2 45 t).1.map fun c => (c.toNat : Int) - 48) n = t then some ((cut2 45 t).1.map fun c => (c.toNat : Int) - 48, n) else none := by
  have h0 : t ≠ [] := by
    rintro rfl
    have : pint (cut2 45 ([] : List UInt8)).2.1 = none := by
      have : Lib.indexByte ([] : List UInt8) 45 = -1 := by decide
      rw [cut2, this]
      exact pint_nil
    rw [this] at h; cases h
  split
  · rename_i hf
    exact psc_fmt hf h0
  · rename_i hf
    cases hp : psc t with
    | none => rfl
    | some q =>
      obtain ⟨W, b⟩ := q
      obtain ⟨_, h1, _⟩ := psc_some hp
      obtain ⟨hs, ht⟩ := fmtS_parts h1 h0
      obtain ⟨h6, hit, hb0, hb1⟩ := isSc_facts hs
      obtain ⟨_, d2, d3⟩ := digs_of hit
      exfalso
      apply hf
      rw [ht, cut2_app d3, pint_itoa (by omega) (by omega)] at h
      simp only [Option.some.injEq] at h
      rw [ht, cut2_app d3, d2, ← h, ← ht]; exact h1
end Go.Sh

/-
  FormatMatrix: contracts; the law walked.
-/
namespace Go.Sh
set_option linter.unusedSimpArgs false
set_option linter.unusedVariables false
open Go Go.Proofs

/-- The size, then what stands right of the diagonal in the first i rows. -/
def up (M : List (List Int)) : Nat → List Int
  | 0 => [(M.length : Int)]
  | i + 1 => up M i ++ (mrow M i).drop (i + 1)
def upk (M : List (List Int)) (i k : Nat) : List Int := up M i ++ ((mrow M i).take k).drop (i + 1)
theorem upk_start (M : List (List Int)) (i : Nat) : upk M i (i + 1) = up M i := by
  have e : ((mrow M i).take (i + 1)).drop (i + 1) = [] := List.drop_eq_nil_of_le (by rw [List.length_take]; omega)
  rw [upk, e, List.append_nil]
theorem upk_succ {M : List (List Int)} {i k : Nat} (h : i + 1 ≤ k) (hk : k < (mrow M i).length) : upk M i (k + 1) = upk M i k ++ [(mrow M i).getD k 0] := by
  have e : (mrow M i).take (k + 1) = (mrow M i).take k ++ [(mrow M i).getD k 0] := by
    generalize mrow M i = r at *
    rw [List.take_add_one, List.getElem?_eq_getElem hk]; simp [List.getD, hk]
  rw [upk, upk, e, List.drop_append_of_le_length (by rw [List.length_take]; omega), List.append_assoc]
theorem upk_all (M : List (List Int)) (i : Nat) : upk M i (mrow M i).length = up M (i + 1) := by rw [upk, List.take_length]; rfl
def txt (l : List Int) : List UInt8 := Lib.join (l.map Lib.itoa) [32]
theorem txt_snoc {l : List Int} (x : Int) (h : l ≠ []) : txt (l ++ [x]) = txt l ++ [32] ++ Lib.itoa x := by
  rw [txt, List.map_append, List.map_cons, List.map_nil, join_snoc _ _ _ (by simpa using h)]; rfl
theorem up_ne (M : List (List Int)) : ∀ i, up M i ≠ []
  | 0 => by simp [up]
  | i + 1 => by rw [up]; simp [up_ne M i]
theorem upk_ne (M : List (List Int)) (i k : Nat) : upk M i k ≠ [] := by rw [upk]; simp [up_ne M i]
theorem itoa_k {x : Int} (h : -1000 ≤ x ∧ x ≤ 1000) : (Lib.itoa x).length ≤ 502 := by
  rw [Lib.itoa]; split
  · have := decDigits_le x.natAbs
    simp; omega
  · have := decDigits_le x.toNat
    omega
theorem txt_le : ∀ {l : List Int}, (∀ y ∈ l, -1000 ≤ y ∧ y ≤ 1000) → (txt l).length ≤ 503 * l.length := by
  intro l
  have h2 : ∀ r : List Int, (∀ y ∈ r, -1000 ≤ y ∧ y ≤ 1000) → (Lib.joinTail [32] (r.map Lib.itoa)).length ≤ 503 * r.length := by
    intro r
    induction r with
    | nil => intro _; simp [Lib.joinTail]
    | cons y r ih =>
      intro h
      have := ih fun z hz => h z (by simp [hz])
      have h1 := itoa_k (h y (by simp))
      simp only [Lib.joinTail, List.map_cons, List.flatten_cons, List.length_append, List.length_cons, List.length_nil] at this ⊢
      omega
  cases l with
  | nil => intro _; simp [txt, Lib.join_nil]
  | cons x r =>
    intro h
    rw [txt, List.map_cons, Lib.join_cons]
    have h1 := itoa_k (h x (by simp))
    have := h2 r fun z hz => h z (by simp [hz])
    simp only [List.length_append, List.length_cons]
    omega
theorem row_it {M : List (List Int)} (h : WM M) {i : Nat} (hi : i < M.length) : ∀ y ∈ mrow M i, -1000 ≤ y ∧ y ≤ 1000 := by
  intro y hy
  obtain ⟨k, hk, rfl⟩ := List.getElem_of_mem hy
  have hl := h.2.1 i hi
  have := (h.2.2.1 i k hi (by omega)).1
  have e : mat M i k = (mrow M i)[k] := by rw [mat]; simp [hk]
  rw [e] at this; exact this
theorem up_it {M : List (List Int)} (h : WM M) : ∀ i, i ≤ M.length → (∀ y ∈ up M i, -1000 ≤ y ∧ y ≤ 1000) ∧ (up M i).length ≤ 1 + 8 * i
  | 0, _ => ⟨by intro y hy; simp [up] at hy; have := h.1; omega, by simp [up]⟩
  | i + 1, hi => by
    obtain ⟨h1, h2⟩ := up_it h i (by omega)
    have hl := h.2.1 i (by omega)
    have := h.1
    refine ⟨fun y hy => ?_, by rw [up, List.length_append, List.length_drop]; omega⟩
    rw [up] at hy
    rcases List.mem_append.1 hy with hy | hy
    · exact h1 y hy
    · exact row_it h (by omega) y (List.mem_of_mem_drop hy)
theorem upk_it {M : List (List Int)} (h : WM M) {i : Nat} (hi : i < M.length) (k : Nat) : (∀ y ∈ upk M i k, -1000 ≤ y ∧ y ≤ 1000) ∧ (upk M i k).length ≤ 9 + 8 * i := by
  obtain ⟨h1, h2⟩ := up_it h i (by omega)
  have hl := h.2.1 i (by omega)
  have := h.1
  refine ⟨fun y hy => ?_, by rw [upk, List.length_append, List.length_drop, List.length_take]; omega⟩
  rw [upk] at hy
  rcases List.mem_append.1 hy with hy | hy
  · exact h1 y hy
  · exact row_it h hi y (List.mem_of_mem_take (List.mem_of_mem_drop hy))
noncomputable def fmtM (M : List (List Int)) : List UInt8 := if isWM M = true then txt (up M M.length) else []
open Classical in
theorem isWM_cases (M : List (List Int)) : (WM M ∧ isWM M = true) ∨ isWM M = false := by
  by_cases h : WM M
  · exact .inl ⟨h, isWM_t h⟩
  · exact .inr (isWM_f h)
end Go.Sh

/-
  Rules as text: plain law.
-/
namespace Go.Sh
set_option linter.unusedSimpArgs false
set_option linter.unusedVariables false
open Go Go.Proofs

def fnm : List (List UInt8) := [[110, 97, 109, 101], [116, 111, 107, 101, 110, 115], [115, 111, 117, 110, 100], [99, 105, 116, 121], [121, 101, 97, 114], [112, 104, 111, 110, 101]]
def fname (i : Nat) : List UInt8 := fnm.getD i []
/-- A valid test. -/
def OkC (c : Con) : Prop := (∃ f : Nat, c.1 = f ∧ f < 6) ∧ 1 ≤ c.2.1 ∧ c.2.1 ≤ 1000
def opB (b : Bool) : List UInt8 := if b = true then [60] else [62, 61]
def fmtT (c : Con) : List UInt8 := fname c.1.toNat ++ opB c.2.2 ++ Lib.itoa c.2.1
def fmtRu (T : List Con) : List UInt8 := Lib.join (T.map fmtT) [44]
def orB : List UInt8 := [32, 111, 114, 32]
def fmtR (R : List (List Con)) : List UInt8 := if isVR R = true then Lib.join (R.map fmtRu) orB else []
theorem isVR_facts {R : List (List Con)} (h : isVR R = true) : (1 ≤ R.length ∧ R.length ≤ 3) ∧ ∀ T ∈ R, (1 ≤ T.length ∧ T.length ≤ 3) ∧ ∀ c ∈ T, OkC c := by
  rw [isVR, Bool.and_eq_true] at h
  have h1 := inR_of h.2
  refine ⟨by omega, fun T hT => ?_⟩
  have h2 := List.all_eq_true.1 h.1 T hT
  rw [okR, Bool.and_eq_true] at h2
  have h3 := inR_of h2.2
  refine ⟨by omega, fun c hc => ?_⟩
  obtain ⟨k, hk, rfl⟩ := List.getElem_of_mem hc
  have h4 := List.all_eq_true.1 h2.1 k (by simp [hk])
  have e : cg T k = T[k] := by simp [cg, hk]
  rw [okT, Bool.and_eq_true, Bool.and_eq_true, e] at h4
  have h5 := inR_of h4.1
  have h6 := inR_of h4.2.1
  exact ⟨⟨(T[k].1).toNat, by omega, by omega⟩, h6.1, h6.2⟩
theorem fname_no {f : Nat} (h : f < 6) : ∀ c ∈ fname f, 97 ≤ c.toNat := by
  have : f = 0 ∨ f = 1 ∨ f = 2 ∨ f = 3 ∨ f = 4 ∨ f = 5 := by omega
  rcases this with rfl | rfl | rfl | rfl | rfl | rfl <;> decide
theorem itoa_dgt {n : Int} (h : 0 ≤ n) : ∀ c ∈ Lib.itoa n, 48 ≤ c.toNat ∧ c.toNat ≤ 57 := by
  intro c hc
  rw [Lib.itoa, if_neg (by omega)] at hc
  have := (decDigits_facts n.toNat).1 c hc
  simpa [dgt] using this
/-- The bytes of a test's text: none of them a blank or a comma. -/
theorem fmtT_no {c : Con} (h : OkC c) : (32 : UInt8) ∉ fmtT c ∧ (44 : UInt8) ∉ fmtT c := by
  obtain ⟨⟨f, hf, hf6⟩, h1, h2⟩ := h
  have key : ∀ x ∈ fmtT c, 46 ≤ x.toNat := fun x hx => by
    rw [fmtT, hf, Int.toNat_natCast] at hx
    rcases List.mem_append.1 hx with hx | hx
    · rcases List.mem_append.1 hx with hx | hx
      · have := fname_no hf6 x hx; omega
      · unfold opB at hx
        split at hx <;> simp at hx
        · subst hx; decide
        · rcases hx with rfl | rfl <;> decide
    · have := itoa_dgt (by omega) x hx; omega
  exact ⟨fun hm => absurd (key 32 hm) (by decide), fun hm => absurd (key 44 hm) (by decide)⟩
theorem fmtT_len {c : Con} (h : OkC c) : 1 ≤ (fmtT c).length ∧ (fmtT c).length ≤ 600 := by
  obtain ⟨⟨f, hf, hf6⟩, h1, h2⟩ := h
  have h3 := itoa_k (x := c.2.1) (by omega)
  have h4 : (fname f).length ≤ 6 := by
    have : f = 0 ∨ f = 1 ∨ f = 2 ∨ f = 3 ∨ f = 4 ∨ f = 5 := by omega
    rcases this with rfl | rfl | rfl | rfl | rfl | rfl <;> decide
  have h5 : 1 ≤ (opB c.2.2).length ∧ (opB c.2.2).length ≤ 2 := by unfold opB; split <;> decide
  rw [fmtT, hf, Int.toNat_natCast, List.length_append, List.length_append]; omega
theorem fmtRu_no {T : List Con} (h : ∀ c ∈ T, OkC c) : (32 : UInt8) ∉ fmtRu T := by
  have key : ∀ T : List Con, (∀ c ∈ T, OkC c) → (32 : UInt8) ∉ Lib.joinTail [44] (T.map fmtT) := by
    intro T
    induction T with
    | nil => intro _; simp [Lib.joinTail]
    | cons c T ih =>
      intro h hm
      have := ih fun d hd => h d (by simp [hd])
      have h1 := (fmtT_no (h c (by simp))).1
      simp only [Lib.joinTail, List.map_cons, List.flatten_cons, List.mem_append, List.mem_cons, List.not_mem_nil, or_false] at hm this
      rcases hm with (hm | hm) | hm
      · exact absurd hm (by decide)
      · exact h1 hm
      · exact this hm
  cases T with
  | nil => simp [fmtRu, Lib.join_nil]
  | cons c T =>
    rw [fmtRu, List.map_cons, Lib.join_cons]
    intro hm
    rcases List.mem_append.1 hm with hm | hm
    · exact (fmtT_no (h c (by simp))).1 hm
    · exact key T (fun d hd => h d (by simp [hd])) hm
/-- A rule's text is cut at its commas. -/
theorem fmtRu_cut {T : List Con} (h0 : T ≠ []) (h : ∀ c ∈ T, OkC c) : cutL 44 (fmtRu T) = T.map fmtT := by
  cases T with
  | nil => exact absurd rfl h0
  | cons c T =>
    rw [fmtRu, List.map_cons]
    refine cutL_join fun q hq => ?_
    rw [← List.map_cons] at hq
    obtain ⟨d, hd, rfl⟩ := List.mem_map.1 hq
    exact (fmtT_no (h d hd)).2
/-! ### Longer separators -/
theorem idx_no {a : UInt8} {sub : List UInt8} : ∀ {s : List UInt8}, a ∉ s → Lib.index s (a :: sub) = -1
  | [], _ => rfl
  | b :: s, h => by
    have ih := idx_no (a := a) (sub := sub) (s := s) fun hm => h (by simp [hm])
    have hb : (a == b) = false := by rw [beq_eq_false_iff_ne]; exact fun e => h (by simp [e])
    rw [Lib.index, ih]
    simp [List.isPrefixOf, hb]
theorem idx_app {a : UInt8} {sub q : List UInt8} : ∀ {p : List UInt8}, a ∉ p → Lib.index (p ++ (a :: sub) ++ q) (a :: sub) = p.length
  | [], _ => by
    have : (a :: sub).isPrefixOf (a :: (sub ++ q)) = true := by simp
    rw [List.nil_append, List.cons_append, Lib.index, if_pos this]; rfl
  | b :: p, h => by
    have ih := idx_app (a := a) (sub := sub) (q := q) (p := p) fun hm => h (by simp [hm])
    have hb : (a == b) = false := by rw [beq_eq_false_iff_ne]; exact fun e => h (by simp [e])
    have hp : (a :: sub).isPrefixOf (b :: (p ++ (a :: sub) ++ q)) = false := by simp [List.isPrefixOf, hb]
    rw [List.cons_append, List.cons_append, Lib.index, ih, hp]
    have : ((p.length : Int) == -1) = false := by rw [beq_eq_false_iff_ne]; omega
    rw [this]
    simp
theorem split_pieces {a : UInt8} {sub : List UInt8} : ∀ {L : List (List UInt8)} {k : Nat}, L ≠ [] → (∀ q ∈ L, a ∉ q) → L.length ≤ k + 1 → Lib.splitK (a :: sub) 0 k (Lib.join L (a :: sub)) = L
  | [], _, h, _, _ => absurd rfl h
  | [p], 0, _, _, _ => by rw [Lib.join_one]; rfl
  | [p], k + 1, _, h, _ => by rw [Lib.join_one, Lib.splitK, idx_no (h p (by simp))]; rfl
  | p :: q :: L, 0, _, _, hk => by simp at hk
  | p :: q :: L, k + 1, _, h, hk => by
    have e : Lib.join (p :: q :: L) (a :: sub) = p ++ (a :: sub) ++ Lib.join (q :: L) (a :: sub) := by
      rw [Lib.join_cons, Lib.join_cons]; simp [Lib.joinTail]
    have ih := split_pieces (a := a) (sub := sub) (L := q :: L) (k := k) (by simp) (fun r hr => h r (List.mem_cons_of_mem _ hr)) (by simpa using hk)
    have hi := idx_app (sub := sub) (q := Lib.join (q :: L) (a :: sub)) (h p (by simp))
    rw [e, Lib.splitK, hi]
    have : ((p.length : Int) == -1) = false := by rw [beq_eq_false_iff_ne]; omega
    rw [this]
    simp only [Bool.false_eq_true, if_false, Int.toNat_natCast, Nat.add_zero]
    have e1 : (p ++ (a :: sub) ++ Lib.join (q :: L) (a :: sub)).take p.length = p := by rw [List.append_assoc, List.take_left]
    have e2 : (p ++ (a :: sub) ++ Lib.join (q :: L) (a :: sub)).drop (p.length + (a :: sub).length) = Lib.join (q :: L) (a :: sub) := by rw [← List.length_append, List.drop_left]
    rw [e1, e2, ih]
theorem count_pieces {a : UInt8} {sub : List UInt8} : ∀ {L : List (List UInt8)} {fuel : Nat}, L ≠ [] → (∀ q ∈ L, a ∉ q) → L.length ≤ fuel → Lib.countFrom (a :: sub) fuel (Lib.join L (a :: sub)) = L.length - 1
  | [], _, h, _, _ => absurd rfl h
  | [p], 0, _, _, hk => by simp at hk
  | [p], k + 1, _, h, _ => by rw [Lib.join_one, Lib.countFrom, idx_no (h p (by simp))]; rfl
  | p :: q :: L, 0, _, _, hk => by simp at hk
  | p :: q :: L, k + 1, _, h, hk => by
    have e : Lib.join (p :: q :: L) (a :: sub) = p ++ (a :: sub) ++ Lib.join (q :: L) (a :: sub) := by
      rw [Lib.join_cons, Lib.join_cons]; simp [Lib.joinTail]
    have ih := count_pieces (a := a) (sub := sub) (L := q :: L) (fuel := k) (by simp) (fun r hr => h r (List.mem_cons_of_mem _ hr)) (by simpa using hk)
    have hi := idx_app (sub := sub) (q := Lib.join (q :: L) (a :: sub)) (h p (by simp))
    rw [e, Lib.countFrom, hi]
    have : ((p.length : Int) == -1) = false := by rw [beq_eq_false_iff_ne]; omega
    rw [this]
    simp only [Bool.false_eq_true, if_false, Int.toNat_natCast]
    have e2 : (p ++ (a :: sub) ++ Lib.join (q :: L) (a :: sub)).drop (p.length + (a :: sub).length) = Lib.join (q :: L) (a :: sub) := by rw [← List.length_append, List.drop_left]
    rw [e2, ih]
    simp only [List.length_cons]; omega
theorem join_ge {sep : List UInt8} (h1 : 1 ≤ sep.length) : ∀ (L : List (List UInt8)), L.length ≤ (Lib.join L sep).length + 1
  | [] => by simp
  | [p] => by simp
  | p :: q :: L => by
    have e : Lib.join (p :: q :: L) sep = p ++ sep ++ Lib.join (q :: L) sep := by
      rw [Lib.join_cons, Lib.join_cons]; simp [Lib.joinTail]
    have ih := join_ge h1 (q :: L)
    rw [e]; simp only [List.length_append, List.length_cons] at ih ⊢; omega
/-- A text joined of pieces is split into them. -/
theorem split_join {a : UInt8} {sub : List UInt8} {L : List (List UInt8)} (h0 : L ≠ []) (h : ∀ q ∈ L, a ∉ q) : Lib.split (Lib.join L (a :: sub)) (a :: sub) = L := by
  have hl : 1 ≤ L.length := List.length_pos_iff.2 h0
  have := join_ge (sep := a :: sub) (by simp) L
  rw [Lib.split, Lib.count, count_pieces h0 h (by omega)]
  exact split_pieces h0 h (by omega)
theorem split_nil (a : UInt8) (sub : List UInt8) : Lib.split [] (a :: sub) = [[]] := by
  have := split_join (a := a) (sub := sub) (L := [[]]) (by simp) (by simp)
  rwa [Lib.join_one] at this
end Go.Sh

/-
  Strings split and cut at longer separators; the names of the features: contracts.
-/
namespace Go.Sh
set_option linter.unusedSimpArgs false
set_option linter.unusedVariables false
open Go Go.Proofs

theorem Tryz.maxL {O : Nat → Prop} {w : World} (h : TabOk O w) : ∃ m, w.cell? ⟨1, 0, none⟩ = some (.int .i64 m) := by
  obtain ⟨_, hc⟩ := h (1, [fun v => ∃ m, v = Value.int .i64 m]) (by simp [TABS])
  obtain ⟨v, h1, ⟨m, rfl⟩, _⟩ := hc 0 _ rfl
  exact ⟨m, h1⟩
theorem drewN_below (w : World) (n : Nat) : RowKit.Below w.heap.size w (w.drewN n) := ⟨rfl, rfl, rfl, Nat.le_refl _, fun _ _ => rfl⟩
theorem Tryz.cutG_ok (s sep : List UInt8) (hs : s.length ≤ 1048576) : PCall Tryz.prog 39 [str s, str sep] (.tup [str (Lib.cut s sep).1, str (Lib.cut s sep).2.1, .val (.bool (Lib.cut s sep).2.2)]) := by
  refine ⟨⟨_, Tryz.func39, rfl, rfl⟩, fun w vs hl ht => ?_⟩
  simp only [LRel, VRel] at hl
  obtain ⟨v, rest, rfl, rfl, v2, rest2, rfl, rfl, rfl⟩ := hl
  obtain ⟨m, hm⟩ := Tryz.maxL ht
  refine (Tryz.strings_Cut (sb s) (sb sep) m w (by rw [sb_size]; omega) hm).mono ?_
  rintro e w' ⟨rfl, n, rfl⟩
  refine ⟨_, rfl, drewN_below w n, ?_⟩
  simp only [sb_data, VRel, LRel]
  exact ⟨[_, _, _], rfl, _, _, rfl, rfl, _, _, rfl, rfl, _, _, rfl, rfl, rfl⟩
theorem crel_strs {O : Nat → Prop} {w : World} {g : Nat} : ∀ {L : List (List UInt8)} {o : Nat}, (∀ i p, L[i]? = some p → w.cell? ⟨g, o + i, none⟩ = some (.string (sb p)) ∧ ¬ O g) → CRel O w (strs L) ⟨g, o, none⟩
  | [], _, _ => by simp only [strs, List.map_nil, CRel]
  | p :: L, o, h => by
    have ih := crel_strs (O := O) (w := w) (g := g) (L := L) (o := o + 1) (fun i q hq => by
      have := h (i + 1) q (by simpa using hq)
      rw [show o + 1 + i = o + (i + 1) by omega]; exact this)
    simp only [strs, List.map_cons, CRel] at ih ⊢
    have h0 := h 0 p rfl
    exact ⟨trivial, h0.2, ⟨_, h0.1, by simp only [VRel]⟩, ih⟩
theorem Tryz.splitG_ok (s sep : List UInt8) (hs : s.length ≤ 1048576) (h1 : 1 ≤ sep.length) : PCall Tryz.prog 35 [str s, str sep] (rst (Lib.split s sep)) := by
  refine ⟨⟨_, Tryz.func35, rfl, rfl⟩, fun w vs hl ht => ?_⟩
  simp only [LRel, VRel] at hl
  obtain ⟨v, rest, rfl, rfl, v2, rest2, rfl, rfl, rfl⟩ := hl
  obtain ⟨m, hm⟩ := Tryz.maxL ht
  refine (Tryz.strings_Split (sb s) (sb sep) m w (by rw [sb_size]; omega) hm (by rw [sb_size]; exact h1)).mono ?_
  rintro e w' ⟨rfl, rfl⟩
  have hd := Lib.splitB_data (sb sep) 0 (Lib.countB (sb s) (sb sep)) (sb s)
  have hk : Lib.splitK (sb sep).data.toList 0 (Lib.countB (sb s) (sb sep)) (sb s).data.toList = Lib.split s sep := by rw [Lib.countB, sb_data, sb_data]; rfl
  rw [hk] at hd
  have hlen : (Lib.split s sep).length = Lib.countB (sb s) (sb sep) + 1 := by
    rw [← hd, List.length_map]
    exact Lib.splitB_all (sb sep) (by rw [sb_size]; exact h1) 0 _ _ rfl
  have hv : (Lib.splitB (sb sep) 0 (Lib.countB (sb s) (sb sep)) (sb s)).map Value.string = (Lib.split s sep).map fun p => Value.string (sb p) := by
    rw [← hd, List.map_map]
    exact List.map_congr_left fun x _ => by simp [Function.comp, sb]
  rw [hv]
  refine ⟨_, rfl, ?_, ?_⟩
  · exact (RowKit.Below.refl _ _).alloc (Nat.le_refl _) _
  · rw [← hlen]
    simp only [rst, VRel]
    refine ⟨_, _, rfl, Nat.le_refl _, by simp, .inr ⟨_, rfl, crel_strs fun i p hp => ⟨?_, by simp⟩⟩⟩
    rw [Nat.zero_add, World.cell?_alloc_at _ _ _ _ rfl]
    simp [hp]
set_option maxHeartbeats 1000000 in
theorem Tryz.sIndex_ok (L : List (List UInt8)) (x : List UInt8) (hL : L.length ≤ 1048576) : PCall Tryz.prog 57 [rst L, str x] (.val (.int .i64 (fx (fun y => x == y) L))) := by
  refine FCall.pcall (R := fun r _ => r = .val (.int .i64 (fx (fun y => x == y) L))) ?_ 0 (by rintro r H rfl; exact view_int)
  refine FCall.of_body Tryz.func57 rfl (by kernel_rfl) (by simp [Tryz.ntmps57]) ?_
  refine SW_of_vc Tryz.mixed _ _ _ (by kernel_rfl) ?_
  simp (disch := omega) only [Tryz.ntmps57, Tryz.results57, go_sem, rst]
  refine LoopW.loop (fun k : Nat => ⟨ofL [(0, rst L), (1, str x), (7, .val (.int .i64 L.length)), (8, .val (.int .i64 k))], hp [] 0⟩) (fun k => k ≤ L.length ∧ ∀ j, j < k → (x == L.getD j []) = false) (fun k => L.length - k) 0 ⟨by omega, fun j hj => by omega⟩ (Wk.of (by simp only [go_sem, ↓List.forall_mem_cons, List.not_mem_nil, false_implies, implies_true, and_true, true_and, and_self, ri_eq, Int.natCast_add, Int.cast_ofNat_Int, rst]; try simp) rfl) ?_
  rintro k ⟨hk, hno⟩
  refine SW_of_vc Tryz.mixed _ _ _ (by kernel_rfl) ?_
  by_cases hlt : k < L.length
  · have hg := strs_get hlt
    cases he : (x == L.getD k []) with
    | true =>
      have hf := fx_some (pr := fun y => x == y) (L := L) [] hlt hno he
      simp (disch := omega) only [Tryz.ntmps57, Tryz.results57, go_sem, rst, hg, he]
      exact Fin.val (by rw [hf])
    | false =>
      have hno2 : ∀ j, j < k + 1 → (x == L.getD j []) = false := fun j hj => by
        rcases Nat.lt_succ_iff_lt_or_eq.1 hj with h | rfl
        · exact hno j h
        · exact he
      simp (disch := omega) only [Tryz.ntmps57, Tryz.results57, go_sem, rst, hg, he]
      exact ⟨k + 1, ⟨hlt, hno2⟩, by omega, Wk.of (by simp only [go_sem, ↓List.forall_mem_cons, List.not_mem_nil, false_implies, implies_true, and_true, true_and, and_self, ri_eq, Int.natCast_add, Int.cast_ofNat_Int, rst]; try simp) rfl⟩
  · obtain rfl : k = L.length := by omega
    have hf := fx_none (pr := fun y => x == y) (L := L) [] hno
    simp (disch := omega) only [Tryz.ntmps57, Tryz.results57, go_sem, rst]
    exact Fin.val (by rw [hf])
/-! ### The names of the features, as a package-level array -/
def nmV : List SV := strs fnm
theorem Tryz.globN (σ : Slots) : globO (.global 0) (sval σ (.global 0)) = .rptr nmV 0 := globO_global (vs := fnm.map fun p => Value.string (sb p)) rfl σ
attribute [go_sem] Tryz.globN
theorem nmV_load {i : Nat} (h : i < 6) : nmV[i]? = some (str (fname i)) := by
  have : i = 0 ∨ i = 1 ∨ i = 2 ∨ i = 3 ∨ i = 4 ∨ i = 5 := by omega
  rcases this with rfl | rfl | rfl | rfl | rfl | rfl <;> rfl
theorem fx_name {f : Nat} (h : f < 6) : fx (fun y => fname f == y) fnm = f := by
  have : f = 0 ∨ f = 1 ∨ f = 2 ∨ f = 3 ∨ f = 4 ∨ f = 5 := by omega
  rcases this with rfl | rfl | rfl | rfl | rfl | rfl <;> decide
set_option maxHeartbeats 1000000 in
theorem Tryz.testText_ok (c : Con) (h : OkC c) : PCall Tryz.prog 33 [.agg [.val (.int .i64 c.1), .val (.int .i64 c.2.1), .val (.bool c.2.2)]] (str (fmtT c)) := by
  obtain ⟨⟨f, hf, hf6⟩, h1, h2⟩ := h
  obtain ⟨a, b, s⟩ := c
  simp only at hf h1 h2
  subst hf
  have w := Tryz.implFI_ok b (by omega) (by omega)
  have hl := itoa_k (x := b) (by omega)
  have hn := nmV_load hf6
  have hf4 : (fname f).length ≤ 6 := by
    have : f = 0 ∨ f = 1 ∨ f = 2 ∨ f = 3 ∨ f = 4 ∨ f = 5 := by omega
    rcases this with rfl | rfl | rfl | rfl | rfl | rfl <;> decide
  refine FCall.pcall (R := fun r _ => r = str (fmtT ((f : Int), b, s))) ?_ 0 (by rintro r H rfl; exact view_str)
  refine FCall.of_body Tryz.func33 rfl (by kernel_rfl) (by simp [Tryz.ntmps33]) ?_
  refine SW_of_vc Tryz.mixed _ _ _ (by kernel_rfl) ?_
  cases s with
  | true =>
    simp (disch := omega) only [Tryz.ntmps33, Tryz.results33, go_sem, hn, List.length_append, List.length_singleton, List.length_cons, List.length_nil]
    refine w.callDV 0 (viewL_cons_of (view_int) viewL_nil_of) ?_
    simp (disch := omega) only [Tryz.ntmps33, Tryz.results33, go_sem, hn, List.length_append, List.length_singleton, List.length_cons, List.length_nil]
    exact Fin.val (by simp [fmtT, opB])
  | false =>
    simp (disch := omega) only [Tryz.ntmps33, Tryz.results33, go_sem, hn, List.length_append, List.length_singleton, List.length_cons, List.length_nil]
    refine w.callDV 0 (viewL_cons_of (view_int) viewL_nil_of) ?_
    simp (disch := omega) only [Tryz.ntmps33, Tryz.results33, go_sem, hn, List.length_append, List.length_singleton, List.length_cons, List.length_nil]
    exact Fin.val (by simp [fmtT, opB])
end Go.Sh

/-
  strconv.Atoi at every string: contracts.
-/
namespace Go.Sh
set_option linter.unusedSimpArgs false
set_option linter.unusedVariables false
open Go Go.Proofs

/-- What a cell of a sentinel holds. -/
def ErrV (v : Value) : Prop := v = .nilIface ∨ ∃ te pe, v = .iface te pe
theorem Tryz.errS {O : Nat → Prop} {w : World} (h : TabOk O w) : ∃ ev, w.cell? ⟨2, 0, none⟩ = some ev ∧ (ev = .nilIface ∨ ∃ te pe, ev = .iface te pe) := by
  obtain ⟨_, hc⟩ := h (2, [fun v => v = .nilIface ∨ ∃ te pe, v = .iface te pe]) (by simp [TABS])
  obtain ⟨v, h1, h2, _⟩ := hc 0 _ rfl
  exact ⟨v, h1, h2⟩
theorem Tryz.errR {O : Nat → Prop} {w : World} (h : TabOk O w) : ∃ ev, w.cell? ⟨3, 0, none⟩ = some ev ∧ (ev = .nilIface ∨ ∃ te pe, ev = .iface te pe) := by
  obtain ⟨_, hc⟩ := h (3, [fun v => v = .nilIface ∨ ∃ te pe, v = .iface te pe]) (by simp [TABS])
  obtain ⟨v, h1, h2, _⟩ := hc 0 _ rfl
  exact ⟨v, h1, h2⟩
theorem Tryz.atoi_t (s : List UInt8) (v : Int) (h : Lib.atoiAll s = .ok v) (hs : s.length ≤ 1048576) : PCall Tryz.prog 60 [str s] (.tup [.val (.int .i64 v), .val .nilIface]) := by
  refine ⟨⟨_, Tryz.func60, rfl, rfl⟩, fun w vs hl _ => ?_⟩
  simp only [LRel, VRel] at hl
  obtain ⟨x, rest, rfl, rfl, rfl⟩ := hl
  refine (Tryz.strconv_Atoi_ok (sb s) (by rw [sb_size]; omega) v (by rw [sb_data]; exact h) w).mono ?_
  rintro e w' ⟨rfl, hw⟩
  refine ⟨_, rfl, ?_, ?_⟩
  · rcases hw with rfl | ⟨t, rfl⟩
    · exact RowKit.Below.refl _ _
    · exact Lib.bytesWorld_below _ _ _
  · simp only [VRel, LRel]; exact ⟨[_, _], rfl, _, _, rfl, rfl, _, _, rfl, rfl, rfl⟩
theorem Tryz.atoi_n (s : List UInt8) (h : ∀ v, Lib.atoiAll s ≠ .ok v) (hs : s.length ≤ 1048576) : ∃ x : Int, PCall Tryz.prog 60 [str s] (.tup [.val (.int .i64 x), .iface 118 .undef]) := by
  cases hh : Lib.atoiAll s with
  | ok v => exact absurd hh (h v)
  | «syntax» =>
    refine ⟨0, ⟨_, Tryz.func60, rfl, rfl⟩, fun w vs hl ht => ?_⟩
    simp only [LRel, VRel] at hl
    obtain ⟨x, rest, rfl, rfl, rfl⟩ := hl
    obtain ⟨ev, h1, h2⟩ := Tryz.errS ht
    refine (Tryz.strconv_Atoi_syntax (sb s) (by rw [sb_size]; omega) (by rw [sb_data]; exact hh) ev w h1 h2).mono ?_
    rintro e w' ⟨N, rfl, _, _, hb⟩
    refine ⟨_, rfl, hb, ?_⟩
    simp only [VRel, LRel]; exact ⟨[_, _], rfl, _, _, rfl, rfl, _, _, rfl, ⟨_, rfl, trivial⟩, rfl⟩
  | range =>
    refine ⟨Lib.atoiSat s, ⟨_, Tryz.func60, rfl, rfl⟩, fun w vs hl ht => ?_⟩
    simp only [LRel, VRel] at hl
    obtain ⟨x, rest, rfl, rfl, rfl⟩ := hl
    obtain ⟨ev, h1, h2⟩ := Tryz.errR ht
    refine (Tryz.strconv_Atoi_range (sb s) (by rw [sb_size]; omega) (by rw [sb_data]; exact hh) ev w h1 h2).mono ?_
    rintro e w' ⟨N, rfl, _, _, hb⟩
    refine ⟨_, rfl, hb, ?_⟩
    simp only [VRel, LRel]; exact ⟨[_, _], by rw [sb_data], _, _, rfl, rfl, _, _, rfl, ⟨_, rfl, trivial⟩, rfl⟩
theorem atoiAll_i64 {s : List UInt8} {v : Int} (h : Lib.atoiAll s = .ok v) : -9223372036854775808 ≤ v ∧ v ≤ 9223372036854775807 := by
  unfold Lib.atoiAll at h
  split at h
  · cases h
  · simp only at h
    split at h
    · cases h
    · cases h
    · split at h
      · cases h
      · split at h
        · cases h
        · simp only [Lib.NumEnd.ok.injEq] at h
          subst h
          split <;> omega
end Go.Sh

/-
  Strings cut at a byte: the reference.
-/
namespace Go.Sh
set_option linter.unusedSimpArgs false
set_option linter.unusedVariables false
open Go Go.Proofs

theorem drop_getD {s : List UInt8} {f i : Nat} (h : f ≤ i) : (s.drop f).getD (i - f) 0 = s.getD i 0 := by
  simp [List.getD, show f + (i - f) = i by omega]
theorem sb_ix {s : List UInt8} {i : Nat} (h : i < s.length) : (if h : 0 ≤ (i : Int) ∧ i < s.length then some (SV.val (.int .u8 ((sb s)[i]'(by rw [sb_size]; exact h.2)).toNat)) else none) = some (.val (.int .u8 (s.getD i 0).toNat)) := by
  rw [dif_pos ⟨by omega, h⟩]
  simp [sb, ByteArray.getElem_eq_getElem_data, h]
set_option maxHeartbeats 4000000 in
theorem Tryz.l2Cut_f (s : List UInt8) (c : UInt8) (hs : s.length ≤ 1048576) : FCall Tryz.prog 98 [str s, .val (.int .u8 c.toNat)] (FlatRes (cutL c s).length 1 (strs (cutL c s))) := by
  refine FCall.of_body Tryz.func98 rfl (by kernel_rfl) (by simp [Tryz.ntmps98]) ?_
  refine SW_of_vc Tryz.mixed _ _ _ (by kernel_rfl) ?_
  simp (disch := omega) only [Tryz.ntmps98, Tryz.results98, go_sem]
  refine LoopW.loop (fun p : Nat × Nat × List (List UInt8) × Nat × Nat => ⟨ofL [(0, str s), (1, .val (.int .u8 c.toNat)), (5, .own p.2.2.2.1 0 p.2.2.1.length p.2.2.1.length 1 false), (6, .val (.int .i64 p.2.1)), (7, .val (.int .i64 p.1))], hx [.blk p.2.2.2.1 ⟨strs p.2.2.1, false⟩] p.2.2.2.2⟩)
    (fun p => p.1 ≤ s.length ∧ p.2.1 ≤ p.1 ∧ p.2.2.1.length ≤ p.2.1 ∧ cutL c s = p.2.2.1 ++ cutL c (s.drop p.2.1) ∧ (∀ k, p.2.1 ≤ k → k < p.1 → s.getD k 0 ≠ c) ∧ p.2.2.2.1 < p.2.2.2.2) (fun p => s.length - p.1) (0, 0, [], 0, 1) ⟨by simp, by simp, by simp, rfl, fun k h1 h2 => by simp only at h2; omega, by simp⟩
    (Wk.ofX (by simp only [go_sem, ↓List.forall_mem_cons, List.not_mem_nil, false_implies, implies_true, and_true, true_and, and_self, ri_eq, Int.natCast_add, Int.cast_ofNat_Int]; try simp) (by simp [EntIn, hp, hmap, strs]) (by simp [hp])) ?_
  rintro ⟨i, f, P, ob, nb⟩ ⟨hi, hf, hPl, hc, hno, hob⟩
  simp only at hi hf hPl hc hno hob
  have hPs := strs_length P
  have hPt : (strs P).take P.length = strs P := List.take_of_length_le (by omega)
  refine SW_of_vc Tryz.mixed _ _ _ (by kernel_rfl) ?_
  by_cases hlt : i < s.length
  · by_cases he : s.getD i 0 = c
    · have hm : cutL c (s.drop f) = (s.drop f).take (i - f) :: cutL c (s.drop (i + 1)) := by
        have := cutL_first (c := c) (s := s.drop f) (m := i - f) (by rw [List.length_drop]; omega) (by rw [drop_getD hf]; exact he) (fun k hk => by
          have e := drop_getD (s := s) (f := f) (i := f + k) (by omega)
          rw [show f + k - f = k by omega] at e
          rw [e]; exact hno _ (by omega) (by omega))
        rw [this, List.drop_drop]
        congr 3; omega
      have hix := sb_ix hlt
      simp (disch := omega) only [Tryz.ntmps98, Tryz.results98, go_sem, hix, he, beq_self_eq_true, hPs, hPt, strs_snoc]
      have hl1 : (P ++ [(s.drop f).take (i - f)]).length = P.length + 1 := by simp
      refine ⟨(i + 1, i + 1, P ++ [(s.drop f).take (i - f)], nb + 1, nb + 1 + 1), ⟨hlt, Nat.le_refl _, by simp only; omega, by rw [hc, hm]; simp, fun k h1 h2 => by simp only at h1 h2; omega, by simp only; omega⟩, by simp only; omega, ?_⟩
      refine Wk.ofX (by simp only [go_sem, ↓List.forall_mem_cons, List.not_mem_nil, false_implies, implies_true, and_true, true_and, and_self, ri_eq, Int.natCast_add, Int.cast_ofNat_Int, hl1]; try simp) ?_ (Nat.le_refl _)
      simp only [List.forall_mem_cons]
      refine ⟨?_, by simp⟩
      simp (disch := omega) only [EntIn, hx_map, xmap_blk, if_pos, if_neg, ↓reduceIte]
    · have he2 : (((s.getD i 0).toNat : Int) == (c.toNat : Int)) = false := by
        rw [beq_eq_false_iff_ne]
        intro e
        exact he (UInt8.toNat_inj.1 (by exact_mod_cast e))
      have hix := sb_ix hlt
      simp (disch := omega) only [Tryz.ntmps98, Tryz.results98, go_sem, hix, he2]
      refine ⟨(i + 1, f, P, ob, nb), ⟨hlt, by simp only; omega, hPl, hc, fun k h1 h2 => ?_, hob⟩, by simp only; omega, Wk.of (by simp only [go_sem, ↓List.forall_mem_cons, List.not_mem_nil, false_implies, implies_true, and_true, true_and, and_self, ri_eq, Int.natCast_add, Int.cast_ofNat_Int]; try simp) rfl⟩
      simp only at h1 h2
      rcases Nat.lt_succ_iff_lt_or_eq.1 h2 with g | g
      · exact hno k h1 g
      · rw [g]; exact he
  · obtain rfl : i = s.length := by omega
    have t3 : (s.drop f).take (s.length - f) = s.drop f := List.take_of_length_le (by rw [List.length_drop]; exact Nat.le_refl _)
    have hlast : cutL c (s.drop f) = [s.drop f] := cutL_last fun k hk => by
      rw [List.length_drop] at hk
      have e := drop_getD (s := s) (f := f) (i := f + k) (by omega)
      rw [show f + k - f = k by omega] at e
      rw [e]; exact hno _ (by omega) (by omega)
    rw [hlast] at hc
    simp (disch := omega) only [Tryz.ntmps98, Tryz.results98, go_sem, hPs, hPt, t3, strs_snoc]
    rw [hc]
    exact fin_strs (by simp) (by first | rfl | (simp (disch := omega) only [hx_map, hp_map, xmap_blk, hmap_cons, xmap_skipI, xmap_nil, if_pos, if_neg, ↓reduceIte]; try rfl))
theorem Tryz.l2Cut_ok (s : List UInt8) (c : UInt8) (hs : s.length ≤ 1048576) : PCall Tryz.prog 98 [str s, .val (.int .u8 c.toNat)] (rst (cutL c s)) :=
  (Tryz.l2Cut_f s c hs).pcall 1 (fun _ _ h => flat_viewS h)
end Go.Sh
