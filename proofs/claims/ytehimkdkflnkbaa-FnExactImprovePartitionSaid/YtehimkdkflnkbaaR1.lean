/-
  Contracts: the constraints of some items. Of the reference and of the program.
-/
import Derived.Test.YtehimkdkflnkbaaG1
import Derived.Test.YtehimkdkflnkbaaD2
namespace Go.Sh
set_option linter.unusedSimpArgs false
set_option linter.unusedVariables false
open Go Go.Proofs

def rkeep (S : List Int) (c : Con) : Bool := decide (c.1 ∈ S) && decide (c.2.1 ∈ S)
def rmap (S : List Int) (c : Con) : Con := (idx c.1 S, idx c.2.1 S, c.2.2)
def rs (C : List Con) (S : List Int) : List Con := (C.filter (rkeep S)).map (rmap S)
theorem rs_nil (S : List Int) : rs [] S = [] := rfl
theorem rs_keep {C : List Con} {S : List Int} {k : Nat} {a b : Int} {s : Bool} (h : k < C.length) (hc : cg C k = (a, b, s)) (ha : a ∈ S) (hb : b ∈ S) : rs (C.take (k + 1)) S = rs (C.take k) S ++ [(idx a S, idx b S, s)] := by
  have e : C[k] = (a, b, s) := by rw [← hc]; simp [cg, h]
  rw [rs, List.take_succ_eq_append_getElem h, e, List.filter_append, List.map_append]
  simp [rs, rkeep, rmap, ha, hb]
theorem rs_drop {C : List Con} {S : List Int} {k : Nat} {a b : Int} {s : Bool} (h : k < C.length) (hc : cg C k = (a, b, s)) (hn : ¬ (a ∈ S ∧ b ∈ S)) : rs (C.take (k + 1)) S = rs (C.take k) S := by
  have e : C[k] = (a, b, s) := by rw [← hc]; simp [cg, h]
  rw [rs, List.take_succ_eq_append_getElem h, e, List.filter_append, List.map_append]
  have : rkeep S (a, b, s) = false := by
    rw [rkeep, ← Bool.decide_and]
    exact decide_eq_false hn
  simp [rs, this]
theorem rs_len (C : List Con) (S : List Int) : (rs C S).length ≤ C.length := by
  rw [rs, List.length_map]
  exact List.length_filter_le _ _
theorem cons_snoc (R : List Con) (a b : Int) (s : Bool) : cons R ++ [.val (.int .i64 a), .val (.int .i64 b), .val (.bool s)] = cons (R ++ [(a, b, s)]) := by
  rw [← cons_append]; rfl
theorem cons_take_self (R : List Con) : (cons R).take (R.length * 3) = cons R := by rw [← cons_length R, List.take_length]
theorem cons_nil : cons [] = [] := rfl
def slC (b : Nat) (R : List Con) : SV := if R.length = 0 then .val (.slice none 0 0) else .own b 0 R.length R.length 3 false
def slH (b : Nat) (R : List Con) : List (Nat × Blk) := if R.length = 0 then [] else [(b, ⟨cons R, false⟩)]
theorem slC_snoc (b : Nat) (R : List Con) (x : Con) : slC b (R ++ [x]) = .own b 0 (R.length + 1) (R.length + 1) 3 false := by simp [slC]
theorem slH_snoc (b : Nat) (R : List Con) (x : Con) : slH b (R ++ [x]) = [(b, ⟨cons (R ++ [x]), false⟩)] := by simp [slH]
theorem slC_f {b : Nat} {R : List Con} (h : R.length ≠ 0) : slC b R = .own b 0 R.length R.length 3 false := if_neg h
theorem slH_f {b : Nat} {R : List Con} (h : R.length ≠ 0) : slH b R = [(b, ⟨cons R, false⟩)] := if_neg h
theorem slC_t {b : Nat} {R : List Con} (h : R.length = 0) : slC b R = .val (.slice none 0 0) := if_pos h
theorem slH_t {b : Nat} {R : List Con} (h : R.length = 0) : slH b R = [] := if_pos h

theorem slH_one (b : Nat) (p q : Int) (t : Bool) : slH b [(p, q, t)] = [(b, ⟨[.val (.int .i64 p), .val (.int .i64 q), .val (.bool t)], false⟩)] := rfl
theorem rep3c (a b c : SV) : rep [a, b, c] 3 = [a, b, c] := rfl
def ResC (R : List Con) (r : SV) (H : Heap) : Prop := (R.length = 0 → r = .val (.slice none 0 0)) ∧ (R.length ≠ 0 → FlatRes R.length 3 (cons R) r H)

end Go.Sh
