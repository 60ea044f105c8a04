/-
  Lists of structs as cells, for elements of any fixed number of cells; triangles.
-/
import Derived.Test.YtehimkdkflnkbaaShL
namespace Go.Sh
set_option linter.unusedSimpArgs false
set_option linter.unusedVariables false
open Go

section
variable {α : Type} {enc : α → List SV} {z : Nat}
def encL (enc : α → List SV) (L : List α) : List SV := L.flatMap enc
theorem encL_nil : encL enc [] = [] := rfl
theorem encL_cons (a : α) (L : List α) : encL enc (a :: L) = enc a ++ encL enc L := rfl
theorem encL_length (hz : ∀ a, (enc a).length = z) : ∀ L : List α, (encL enc L).length = L.length * z
  | [] => by simp [encL]
  | a :: L => by
    rw [encL_cons, List.length_append, hz, encL_length hz L, List.length_cons, Nat.add_mul, Nat.one_mul, Nat.add_comm]
theorem encL_drop (hz : ∀ a, (enc a).length = z) : ∀ (L : List α) (k : Nat), (encL enc L).drop (k * z) = encL enc (L.drop k)
  | L, 0 => by simp
  | [], k + 1 => by simp [encL]
  | a :: L, k + 1 => by
    rw [encL_cons, Nat.add_mul, Nat.one_mul, Nat.add_comm (k * z) z, ← hz a, List.drop_append, List.drop_eq_nil_of_le (by omega), List.nil_append, Nat.add_sub_cancel_left, hz a, encL_drop hz L k]
    rfl
theorem encL_load (hz : ∀ a, (enc a).length = z) {L : List α} {k : Nat} (h : k < L.length) : ((encL enc L).drop (k * z)).take z = enc L[k] := by
  rw [encL_drop hz, List.drop_eq_getElem_cons h, encL_cons, ← hz L[k], List.take_left]
theorem encL_at (hz : ∀ a, (enc a).length = z) {L : List α} {k i : Nat} (h : k < L.length) (hi : i < z) : (encL enc L)[k * z + i]? = (enc L[k])[i]? := by
  have h2 : (((encL enc L).drop (k * z)).take z)[i]? = (enc L[k])[i]? := by rw [encL_load hz h]
  rw [List.getElem?_take, if_pos hi, List.getElem?_drop] at h2
  exact h2
theorem encL_append (A B : List α) : encL enc A ++ encL enc B = encL enc (A ++ B) := by simp [encL]
theorem encL_take_self (hz : ∀ a, (enc a).length = z) (L : List α) : (encL enc L).take (L.length * z) = encL enc L := by rw [← encL_length hz, List.take_length]
theorem encL_vals (hv : ∀ a, (enc a).all isVal = true) : ∀ L : List α, (encL enc L).all isVal = true
  | [] => rfl
  | a :: L => by rw [encL_cons, List.all_append, hv, encL_vals hv L]; rfl
theorem splice_ge : ∀ (new l : List SV) (x : SV) (o : Nat), splice (x :: l) (o + 1) new = x :: splice l o new
  | [], l, x, o => rfl
  | c :: new, l, x, o => by
    show splice (x :: l.set o c) (o + 1 + 1) new = x :: splice (l.set o c) (o + 1) new
    exact splice_ge new (l.set o c) x (o + 1)
theorem splice_app : ∀ (pre l new : List SV) (o : Nat), splice (pre ++ l) (pre.length + o) new = pre ++ splice l o new
  | [], l, new, o => by simp
  | p :: pre, l, new, o => by
    have e : (p :: pre).length + o = pre.length + o + 1 := by simp; omega
    rw [e, List.cons_append, splice_ge, splice_app pre l new o, List.cons_append]
theorem splice_front : ∀ (new old l : List SV), old.length = new.length → splice (old ++ l) 0 new = new ++ l
  | [], old, l, h => by
    have : old = [] := List.length_eq_zero_iff.1 (by simpa using h)
    subst this; rfl
  | c :: new, [], l, h => by simp at h
  | c :: new, o :: old, l, h => by
    show splice ((o :: (old ++ l)).set 0 c) (0 + 1) new = c :: (new ++ l)
    rw [List.set_cons_zero, splice_ge, splice_front new old l (by simpa using h)]
theorem encL_splice (hz : ∀ a, (enc a).length = z) : ∀ {L : List α} {k : Nat} (a : α), k < L.length → splice (encL enc L) (k * z) (enc a) = encL enc (L.set k a)
  | [], k, a, h => by simp at h
  | b :: L, 0, a, _ => by
    rw [encL_cons, Nat.zero_mul, splice_front _ _ _ (by rw [hz, hz])]; rfl
  | b :: L, k + 1, a, h => by
    have e : (k + 1) * z = (enc b).length + k * z := by rw [hz, Nat.add_mul, Nat.one_mul, Nat.add_comm]
    rw [encL_cons, e, splice_app, encL_splice hz a (by simpa using h)]; rfl
theorem rep_enc (hz : ∀ a, (enc a).length = z) (h0 : 0 < z) (d : α) (n : Nat) : rep (enc d) (n * z) = encL enc (List.replicate n d) := by
  apply List.ext_getElem?
  intro i
  by_cases h : i < n * z
  · have h3 : i / z < n := Nat.div_lt_of_lt_mul (by rw [Nat.mul_comm]; exact h)
    have hm : i % z < z := Nat.mod_lt _ h0
    have e : i = i / z * z + i % z := (Nat.div_add_mod' i z).symm
    have h4 : (encL enc (List.replicate n d))[i]? = (enc d)[i % z]? := by
      conv => lhs; rw [e]
      rw [encL_at hz (by simpa using h3) hm]
      simp
    rw [h4]
    simp only [rep, List.getElem?_map]
    rw [List.getElem?_range h]
    simp only [Option.map_some, hz d]
    rw [List.getElem?_eq_getElem (by rw [hz d]; exact hm), List.getD_eq_getElem?_getD, List.getElem?_eq_getElem (by rw [hz d]; exact hm)]
    rfl
  · rw [List.getElem?_eq_none (by simp [rep]; omega), List.getElem?_eq_none (by rw [encL_length hz]; simp; omega)]
end

/-- A triangle: its items, its weight. -/
abbrev Tri := Int × Int × Int × Int
def tri4 (t : Tri) : List SV := [.val (.int .i64 t.1), .val (.int .i64 t.2.1), .val (.int .i64 t.2.2.1), .val (.int .i64 t.2.2.2)]
theorem tri4_z (t : Tri) : (tri4 t).length = 4 := rfl
theorem tri4_v (t : Tri) : (tri4 t).all isVal = true := rfl
def rt (T : List Tri) : SV := .row T.length false (encL tri4 T)
def tg (T : List Tri) (k : Nat) : Tri := T.getD k (0, 0, 0, 0)
theorem tri_of {T : List Tri} {k : Nat} {a b c w : Int} (h : k < T.length) (e : tg T k = (a, b, c, w)) : (encL tri4 T)[k * 4]? = some (.val (.int .i64 a)) ∧ (encL tri4 T)[k * 4 + 1]? = some (.val (.int .i64 b)) ∧ (encL tri4 T)[k * 4 + 2]? = some (.val (.int .i64 c)) ∧ (encL tri4 T)[k * 4 + 3]? = some (.val (.int .i64 w)) ∧
    ((encL tri4 T).drop (k * 4)).take 4 = [.val (.int .i64 a), .val (.int .i64 b), .val (.int .i64 c), .val (.int .i64 w)] := by
  have e2 : T[k] = (a, b, c, w) := by rw [← e]; simp [tg, h]
  have g := fun i hi => encL_at (enc := tri4) (z := 4) tri4_z h (i := i) hi
  rw [e2] at g
  refine ⟨g 0 (by omega), g 1 (by omega), g 2 (by omega), g 3 (by omega), ?_⟩
  rw [encL_load tri4_z h, e2]; rfl
theorem tri_set4 {T : List Tri} {k : Nat} {a b c w : Int} (h : k < T.length) : ((((encL tri4 T).set (k * 4) (.val (.int .i64 a))).set (k * 4 + 1) (.val (.int .i64 b))).set (k * 4 + 1 + 1) (.val (.int .i64 c))).set (k * 4 + 1 + 1 + 1) (.val (.int .i64 w)) = encL tri4 (T.set k (a, b, c, w)) := by
  have := encL_splice (enc := tri4) (z := 4) tri4_z (a, b, c, w) h
  simpa only [splice, tri4] using this
theorem rep_tri (n : Nat) : rep [.val (.int .i64 0), .val (.int .i64 0), .val (.int .i64 0), .val (.int .i64 0)] (n * 4) = encL tri4 (List.replicate n (0, 0, 0, 0)) := rep_enc (enc := tri4) tri4_z (by omega) (0, 0, 0, 0) n
theorem tri_ex (T : List Tri) (k : Nat) : ∃ a b c w, tg T k = (a, b, c, w) := ⟨_, _, _, _, rfl⟩
theorem viewL_encL {H : Heap} {f : Nat} : ∀ T : List Tri, viewL H f (encL tri4 T) = some (encL tri4 T)
  | [] => viewL_nil_of
  | t :: T => viewL_cons_of view_int (viewL_cons_of view_int (viewL_cons_of view_int (viewL_cons_of view_int (viewL_encL T))))
theorem flat_viewT {T : List Tri} {n : Nat} {r : SV} {H : Heap} (h : FlatRes n 4 (encL tri4 T) r H) : view H 2 r = some (rt T) := by
  have hl := h.length
  rw [encL_length (z := 4) tri4_z] at hl
  have hn : T.length = n := by omega
  obtain ⟨b, off, cap, ex, blk, rfl, h1, h2, h3, h4⟩ := h
  simp only [view, h1, h3, if_true, h2, viewL_encL, rt, hn]
end Go.Sh
