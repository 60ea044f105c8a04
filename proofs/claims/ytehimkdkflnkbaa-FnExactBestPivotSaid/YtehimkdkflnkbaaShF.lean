/-
  The operations, further: arithmetic, comparisons, len, cap, min, max, copy; and all operations under one name.
-/
import Derived.Test.YtehimkdkflnkbaaShE
namespace Go.Sh
set_option linter.unusedSimpArgs false
set_option linter.unusedVariables false
open Go Go.RowKit
variable {P : Program}

def vb (b : Bool) : SV := .val (.bool b)
def vi (n : Int) : SV := .val (.int .i64 n)

def kand (k : IntKind) (a b : Int) : Int := k.wrap ((BitVec.ofInt k.bits a &&& BitVec.ofInt k.bits b).toNat : Nat)
def kor (k : IntKind) (a b : Int) : Int := k.wrap ((BitVec.ofInt k.bits a ||| BitVec.ofInt k.bits b).toNat : Nat)
def kxor (k : IntKind) (a b : Int) : Int := k.wrap ((BitVec.ofInt k.bits a ^^^ BitVec.ofInt k.bits b).toNat : Nat)
def kandNot (k : IntKind) (a b : Int) : Int := k.wrap ((BitVec.ofInt k.bits a &&& ~~~ (BitVec.ofInt k.bits b)).toNat : Nat)
def kshl (k : IntKind) (a b : Int) : Int := k.wrap (a * 2 ^ (min b.toNat k.bits))
def kshr (k : IntKind) (a b : Int) : Int := a.fdiv (2 ^ (min b.toNat k.bits))
def sint (op : BinOp) (k : IntKind) (a b : Int) : Option SV :=
  match op with
  | .add => some (.val (.int k (k.wrap (a + b))))
  | .sub => some (.val (.int k (k.wrap (a - b))))
  | .mul => some (.val (.int k (k.wrap (a * b))))
  | .quo => if b = 0 then none else some (.val (.int k (k.wrap (a.tdiv b))))
  | .rem => if b = 0 then none else some (.val (.int k (a.tmod b)))
  | .and => some (.val (.int k (kand k a b)))
  | .or => some (.val (.int k (kor k a b)))
  | .xor => some (.val (.int k (kxor k a b)))
  | .andNot => some (.val (.int k (kandNot k a b)))
  | .eql => some (.val (.bool (a == b)))
  | .neq => some (.val (.bool (a != b)))
  | .lss => some (.val (.bool (decide (a < b))))
  | .leq => some (.val (.bool (decide (a ≤ b))))
  | .gtr => some (.val (.bool (decide (a > b))))
  | .geq => some (.val (.bool (decide (a ≥ b))))
  | _ => none
def sshift (op : BinOp) (k : IntKind) (a b : Int) : Option SV :=
  match op with
  | .shl => if 0 ≤ b then some (.val (.int k (kshl k a b))) else none
  | .shr => if 0 ≤ b then some (.val (.int k (kshr k a b))) else none
  | _ => none
def sstr (op : BinOp) (a b : ByteArray) : Option SV :=
  match op with
  | .add => if a.size + b.size ≤ 9223372036854775807 then some (.val (.string (a ++ b))) else none
  | .eql => some (.val (.bool (a.toList == b.toList)))
  | .neq => some (.val (.bool (!(a.toList == b.toList))))
  | .lss => some (.val (.bool (Op.bytesLess a.toList b.toList)))
  | .leq => some (.val (.bool (Op.bytesLess a.toList b.toList || a.toList == b.toList)))
  | .gtr => some (.val (.bool (!(Op.bytesLess a.toList b.toList || a.toList == b.toList))))
  | .geq => some (.val (.bool (!(Op.bytesLess a.toList b.toList))))
  | _ => none
def isBool (P : Program) (t : TypeId) : Bool := match P.underlying t with | some .bool => true | _ => false
theorem isBool_under {t : TypeId} (h : isBool P t = true) : P.underlying t = some .bool := by
  unfold isBool at h
  split at h
  · assumption
  · simp at h
/-- Is this slice nil? -/
def isNilS : SV → Option Bool
  | .val (.slice none 0 0) => some true
  | .row n _ _ => if n = 0 then none else some false
  | .own _ _ _ _ _ _ => some false
  | _ => none
def seqb (op : BinOp) (b : Bool) : Option SV :=
  match op with
  | .eql => some (.val (.bool b))
  | .neq => some (.val (.bool (!b)))
  | _ => none
def sbin (P : Program) (op : BinOp) (t : TypeId) (x y : SV) : Option SV :=
  match x, y with
  | .val (.int k a), .val (.int k' b) =>
    match op with
    | .shl => sshift .shl k a b
    | .shr => sshift .shr k a b
    | op => if k = k' then sint op k a b else none
  | .val (.bool a), .val (.bool b) => if isBool P t = true then seqb op (a == b) else none
  | .val (.string a), .val (.string b) => sstr op a b
  | x, .val (.slice none 0 0) => match elemOfSlice P t, isNilS x with
    | some _, some b => seqb op b
    | _, _ => none
  | _, _ => none

theorem isNilS_rel {O : Nat → Prop} {w : World} {j : JMap} {s : SV} {b : Bool} {v : Value} (h : isNilS s = some b) (hv : VRel O w j s v) : ∃ a n c, v = .slice a n c ∧ a.isNone = b := by
  unfold isNilS at h
  split at h
  · simp only [VRel] at hv; subst hv; simp at h; exact ⟨none, 0, 0, rfl, by simp [h]⟩
  · simp only [VRel] at hv
    obtain ⟨a, cap, rfl, _, _, hc⟩ := hv
    split at h
    · simp at h
    · rename_i hn
      obtain ⟨b, rfl, _⟩ := hc.resolve_left (fun e => hn e.2.1)
      simp at h; exact ⟨some b, _, _, rfl, by simp [h]⟩
  · simp only [VRel] at hv; obtain ⟨rb, base, a, cap', c, e, fr, _, rfl, _⟩ := hv; simp at h; exact ⟨some a, _, _, rfl, by simp [h]⟩
  · simp at h

theorem run_equal_bool {t : TypeId} (hu : P.underlying t = some .bool) (a b : Bool) (w : World) : (Op.equal t (.bool a) (.bool b)).run P w = .ok (a == b) w := by
  have key : ∀ d, (Op.equalIn (d + 1) t (.bool a) (.bool b)).run P w = .ok (a == b) w := fun d => by simp only [Op.equalIn, Sem.run_bind, run_underlying hu, Result.andThen_ok, Sem.run_pure]
  exact key 9999
theorem run_equal_nil {t e : TypeId} (hu : P.underlying t = some (.slice e)) (a : Option Addr) (n c : Nat) (w : World) : (Op.equal t (.slice a n c) (.slice none 0 0)).run P w = .ok a.isNone w := by
  have key : ∀ d, (Op.equalIn (d + 1) t (.slice a n c) (.slice none 0 0)).run P w = .ok a.isNone w := fun d => by
    cases a <;> simp only [Op.equalIn, Sem.run_bind, run_underlying hu, Result.andThen_ok, Sem.run_pure, Option.isNone]
  exact key 9999
theorem eq_run_bool {x y : Operand} {t : TypeId} (hu : P.underlying t = some .bool) (a b : Bool) (w : World) :
    (do eqGuard .eql t x y (.bool a) (.bool b); binOp .eql t (.bool a) (.bool b) : Sem Value).run P w = .ok (.bool (a == b)) w := by
  have e : binOp .eql t (.bool a) (.bool b) = (do pure (.bool (← Op.equal t (.bool a) (.bool b)))) := rfl
  rw [e, eqGuard_at_bool]
  simp only [pure_bind, Sem.run_bind, run_equal_bool hu, Result.andThen_ok, Sem.run_pure]
theorem ne_run_bool {x y : Operand} {t : TypeId} (hu : P.underlying t = some .bool) (a b : Bool) (w : World) :
    (do eqGuard .neq t x y (.bool a) (.bool b); binOp .neq t (.bool a) (.bool b) : Sem Value).run P w = .ok (.bool (!(a == b))) w := by
  have e : binOp .neq t (.bool a) (.bool b) = (do pure (.bool (!(← Op.equal t (.bool a) (.bool b))))) := rfl
  rw [e, eqGuard_at_bool]
  simp only [pure_bind, Sem.run_bind, run_equal_bool hu, Result.andThen_ok, Sem.run_pure]
theorem eq_run_nil {x y : Operand} {t e : TypeId} (hu : P.underlying t = some (.slice e)) (a : Option Addr) (n c : Nat) (w : World) :
    (do eqGuard .eql t x y (.slice a n c) (.slice none 0 0); binOp .eql t (.slice a n c) (.slice none 0 0) : Sem Value).run P w = .ok (.bool a.isNone) w := by
  have e : binOp .eql t (.slice a n c) (.slice none 0 0) = (do pure (.bool (← Op.equal t (.slice a n c) (.slice none 0 0)))) := rfl
  rw [e, eqGuard_at_slice]
  simp only [pure_bind, Sem.run_bind, run_equal_nil hu, Result.andThen_ok, Sem.run_pure]
theorem ne_run_nil {x y : Operand} {t e : TypeId} (hu : P.underlying t = some (.slice e)) (a : Option Addr) (n c : Nat) (w : World) :
    (do eqGuard .neq t x y (.slice a n c) (.slice none 0 0); binOp .neq t (.slice a n c) (.slice none 0 0) : Sem Value).run P w = .ok (.bool (!a.isNone)) w := by
  have e : binOp .neq t (.slice a n c) (.slice none 0 0) = (do pure (.bool (!(← Op.equal t (.slice a n c) (.slice none 0 0))))) := rfl
  rw [e, eqGuard_at_slice]
  simp only [pure_bind, Sem.run_bind, run_equal_nil hu, Result.andThen_ok, Sem.run_pure]

theorem bits_and {t : TypeId} {x y : Operand} (k : IntKind) (a b : Int) (w : World) : (do eqGuard .and t x y (.int k a) (.int k b); binOp .and t (.int k a) (.int k b) : Sem Value).run P w = .ok (.int k (kand k a b)) w := by
  rw [eqGuard_at_int]
  simp only [pure_bind, binOp_and]
  rfl
theorem bits_or {t : TypeId} {x y : Operand} (k : IntKind) (a b : Int) (w : World) : (do eqGuard .or t x y (.int k a) (.int k b); binOp .or t (.int k a) (.int k b) : Sem Value).run P w = .ok (.int k (kor k a b)) w := by
  rw [eqGuard_at_int]
  simp only [pure_bind, binOp_or]
  rfl
theorem bits_xor {t : TypeId} {x y : Operand} (k : IntKind) (a b : Int) (w : World) : (do eqGuard .xor t x y (.int k a) (.int k b); binOp .xor t (.int k a) (.int k b) : Sem Value).run P w = .ok (.int k (kxor k a b)) w := by
  rw [eqGuard_at_int]
  simp only [pure_bind, binOp_xor]
  rfl
theorem bits_andNot {t : TypeId} {x y : Operand} (k : IntKind) (a b : Int) (w : World) : (do eqGuard .andNot t x y (.int k a) (.int k b); binOp .andNot t (.int k a) (.int k b) : Sem Value).run P w = .ok (.int k (kandNot k a b)) w := by
  rw [eqGuard_at_int]
  simp only [pure_bind, binOp_andNot]
  rfl

theorem sbin_sound {O : Nat → Prop} {w : World} {j : JMap} {op : BinOp} {t : TypeId} {x y : Operand} {sx sy s : SV} {vx vy : Value} (h : sbin P op t sx sy = some s) (hx : VRel O w j sx vx) (hy : VRel O w j sy vy) :
    ∃ v, (do eqGuard op t x y vx vy; binOp op t vx vy : Sem Value).run P w = .ok v w ∧ VRel O w j s v := by
  unfold sbin at h
  split at h
  · rename_i k a k' b
    simp only [VRel] at hx hy
    subst hx hy
    split at h
    · simp only [sshift] at h
      split at h
      · rename_i h0
        simp at h; subst h
        have n0 : ¬ b < 0 := by omega
        exact ⟨.int k (k.wrap (a * 2 ^ (min b.toNat k.bits))), by simp [eqGuard_at_int, binOp, Op.shift, n0], by simp only [VRel, kshl]⟩
      · simp at h
    · simp only [sshift] at h
      split at h
      · rename_i h0
        simp at h; subst h
        have n0 : ¬ b < 0 := by omega
        exact ⟨.int k (a.fdiv (2 ^ (min b.toNat k.bits))), by simp [eqGuard_at_int, binOp, Op.shift, n0], by simp only [VRel, kshr]⟩
      · simp at h
    · rename_i n1 n2
      split at h
      · rename_i hk
        subst hk
        cases op <;> simp only [sint] at h <;>
          first
            | (exact absurd rfl n1)
            | (exact absurd rfl n2)
            | (simp at h; done)
            | (simp at h; subst h; exact ⟨_, bits_and k a b w, by simp only [VRel]⟩)
            | (simp at h; subst h; exact ⟨_, bits_or k a b w, by simp only [VRel]⟩)
            | (simp at h; subst h; exact ⟨_, bits_xor k a b w, by simp only [VRel]⟩)
            | (simp at h; subst h; exact ⟨_, bits_andNot k a b w, by simp only [VRel]⟩)
            | (simp at h; subst h; exact ⟨_, by simp [eqGuard_at_int, binOp, Op.intArith, Op.intCmp]; rfl, by simp only [VRel]⟩)
            | (split at h
               · simp at h
               · rename_i hb; simp at h; subst h; exact ⟨_, by simp [eqGuard_at_int, binOp, Op.intDiv, hb]; rfl, by simp only [VRel]⟩)
      · simp at h
  · rename_i a b
    simp only [VRel] at hx hy
    subst hx hy
    split at h
    · rename_i hb
      have hu := isBool_under hb
      cases op <;> simp only [seqb] at h <;>
        first
          | (simp at h; done)
          | (simp at h; subst h; exact ⟨_, eq_run_bool hu a b w, by simp only [VRel]; first | done | simp⟩)
          | (simp at h; subst h; exact ⟨_, ne_run_bool hu a b w, by simp only [VRel]; first | done | simp⟩)
    · simp at h
  · rename_i a b
    simp only [VRel] at hx hy
    subst hx hy
    cases op <;> simp only [sstr] at h <;>
      first
        | (simp at h; done)
        | (simp at h; subst h; exact ⟨_, by simp [eqGuard_at_string, binOp, Op.stringOp]; rfl, by simp only [VRel]⟩)
        | (split at h
           · rename_i hb
             simp at h; subst h
             have n1 : ¬ (9223372036854775807 < ((a.size : Int) + (b.size : Int))) := by omega
             exact ⟨_, by simp [eqGuard_at_string, binOp, Op.stringOp, n1]; rfl, by simp only [VRel]⟩
           · simp at h)
  · simp only [VRel] at hy
    subst hy
    split at h
    · rename_i e b he hb
      have hu := elemOf_under he
      obtain ⟨a, n, c, rfl, rfl⟩ := isNilS_rel hb hx
      cases op <;> simp only [seqb] at h <;>
        first
          | (simp at h; done)
          | (simp at h; subst h; exact ⟨_, eq_run_nil hu a n c w, by simp only [VRel]; first | done | simp⟩)
          | (simp at h; subst h; exact ⟨_, ne_run_nil hu a n c w, by simp only [VRel]; first | done | simp⟩)
    · simp at h
  · simp at h

def sun (op : UnOp) (x : SV) : Option SV :=
  match op, x with
  | .neg, .val (.int k n) => some (.val (.int k (k.wrap (0 - n))))
  | .not, .val (.bool b) => some (.val (.bool (!b)))
  | _, _ => none
theorem sun_sound {O : Nat → Prop} {w : World} {j : JMap} {op : UnOp} {sx s : SV} {vx : Value} (h : sun op sx = some s) (hx : VRel O w j sx vx) : ∃ v, (Op.unary op vx).run P w = .ok v w ∧ VRel O w j s v := by
  unfold sun at h
  split at h
  · simp only [VRel] at hx; subst hx; simp at h; subst h
    exact ⟨_, by simp [Op.unary, Op.intArith]; rfl, by simp only [VRel]; first | done | simp⟩
  · simp only [VRel] at hx; subst hx; simp at h; subst h
    exact ⟨_, by simp [Op.unary]; rfl, by simp only [VRel]⟩
  · simp at h

def kindOf (P : Program) (t : TypeId) : Option IntKind := match P.underlying t with | some (.int k) => some k | _ => none
theorem kindOf_under {t : TypeId} {k : IntKind} (h : kindOf P t = some k) : P.underlying t = some (.int k) := by
  unfold kindOf at h
  split at h
  · simp at h; subst h; assumption
  · simp at h
def sconv (P : Program) (src dst : TypeId) (x : SV) : Option SV :=
  match P.underlying src with
  | none => none
  | some _ => match x with
    | .val (.int _ n) => match kindOf P dst with
      | some k => some (.val (.int k (k.wrap n)))
      | none => none
    | .val (.string s) => if isStr P dst = true then some (.val (.string s)) else none
    | _ => none
theorem sconv_sound {O : Nat → Prop} {w : World} {j : JMap} {src dst : TypeId} {sx s : SV} {vx : Value} (h : sconv P src dst sx = some s) (hx : VRel O w j sx vx) : ∃ v, (convert src dst vx).run P w = .ok v w ∧ VRel O w j s v := by
  unfold sconv at h
  split at h
  · simp at h
  · rename_i d hd
    split at h
    · simp only [VRel] at hx; subst hx
      split at h
      · rename_i k hk
        simp at h; subst h
        exact ⟨_, by simp [convert, run_underlying hd, run_underlying (kindOf_under hk), Conv.intToInt]; rfl, by simp only [VRel]⟩
      · simp at h
    · simp only [VRel] at hx; subst hx
      split at h
      · rename_i hs
        simp at h; subst h
        exact ⟨_, by simp [convert, run_underlying hd, run_underlying (isStr_under hs)]; rfl, by simp only [VRel]⟩
      · simp at h
    · simp at h

/-! ### Built-in functions -/
def slen (P : Program) (t : TypeId) (x : SV) : Option SV :=
  match elemOfSlice P t with
  | some _ => match x with
    | .val (.slice none 0 0) => some (.val (.int .i64 0))
    | .row n _ _ => some (.val (.int .i64 n))
    | .own _ _ n _ _ _ => some (.val (.int .i64 n))
    | _ => none
  | none => match arrayOf P t with
    | some (n, _) => some (.val (.int .i64 n))
    | none => if isStr P t = true then (match x with
      | .val (.string s) => some (.val (.int .i64 s.size))
      | _ => none) else none
theorem slen_sound {O : Nat → Prop} {w : World} {j : JMap} {t : TypeId} {ty : TypeId} {sx s : SV} {vx : Value} (h : slen P t sx = some s) (hx : VRel O w j sx vx) : ∃ v, (Builtin.len_ #[t] ty #[vx]).run P w = .ok v w ∧ VRel O w j s v := by
  unfold slen at h
  split at h
  · rename_i e he
    have hu := elemOf_under he
    split at h
    · simp only [VRel] at hx; subst hx; simp at h; subst h
      exact ⟨_, by simp [Builtin.len_, run_underlying hu]; rfl, by simp only [VRel]; rfl⟩
    · simp only [VRel] at hx; obtain ⟨a, cap, rfl, _⟩ := hx; simp at h; subst h
      exact ⟨_, by simp [Builtin.len_, run_underlying hu]; rfl, by simp only [VRel]; rfl⟩
    · simp only [VRel] at hx; obtain ⟨rb, base, a, cap', c, e, fr, _, rfl, _⟩ := hx; simp at h; subst h
      exact ⟨_, by simp [Builtin.len_, run_underlying hu]; rfl, by simp only [VRel]; rfl⟩
    · simp at h
  · split at h
    · rename_i n e he
      have hu := arrayOf_under he
      simp at h; subst h
      exact ⟨_, by simp [Builtin.len_, run_underlying hu]; rfl, by simp only [VRel]; rfl⟩
    · split at h
      · rename_i hs
        have hu := isStr_under hs
        split at h
        · simp only [VRel] at hx; subst hx; simp at h; subst h
          exact ⟨_, by simp [Builtin.len_, run_underlying hu]; rfl, by simp only [VRel]; rfl⟩
        · simp at h
      · simp at h

def smax2 : SV → SV → Option SV
  | .val (.int k x), .val (.int _ y) => some (.val (.int k (if y > x then y else x)))
  | _, _ => none
def smin2 : SV → SV → Option SV
  | .val (.int k x), .val (.int _ y) => some (.val (.int k (if y < x then y else x)))
  | _, _ => none
def sfold (f : SV → SV → Option SV) : SV → List SV → Option SV
  | a, [] => some a
  | a, x :: xs => match f a x with
    | some b => sfold f b xs
    | none => none
def sfold1 (f : SV → SV → Option SV) : List SV → Option SV
  | [] => none
  | x :: xs => sfold f x xs

theorem sfold_sound {O : Nat → Prop} {w : World} {j : JMap} {f : SV → SV → Option SV} {g : Value → Value → Sem Value} (hfg : ∀ a b s va vb, f a b = some s → VRel O w j a va → VRel O w j b vb → ∃ v, (g va vb).run P w = .ok v w ∧ VRel O w j s v) :
    ∀ (xs : List SV) (vs : List Value) (a : SV) (va : Value) (s : SV), LRel O w j xs vs → VRel O w j a va → sfold f a xs = some s → ∃ v, (vs.foldlM g va).run P w = .ok v w ∧ VRel O w j s v
  | [], vs, a, va, s, hl, ha, h => by
    simp only [LRel] at hl; subst hl
    simp [sfold] at h; subst h
    exact ⟨va, by simp, ha⟩
  | x :: xs, vs, a, va, s, hl, ha, h => by
    simp only [LRel] at hl
    obtain ⟨u, rest, rfl, h1, h2⟩ := hl
    simp only [sfold] at h
    split at h
    · rename_i b hb
      obtain ⟨v, g1, g2⟩ := hfg a x b va u hb ha h1
      obtain ⟨v', k1, k2⟩ := sfold_sound hfg xs rest b v s h2 g2 h
      exact ⟨v', by simp [g1, k1], k2⟩
    · simp at h

def scopy (P : Program) (H : Heap) (argTypes : List TypeId) (d x : SV) : Option (SV × Heap) :=
  match argTypes with
  | t :: tx :: [] => match elemOfSlice P t, elemOfSlice P tx with
    | some e, some _ => match szOf P e with
      | some z => match sview H z d, sview H z x, d with
        | some (n, _), some (m, new), .own b off _ _ sz _ => match H.map b with
          | some blk => if sz = z ∧ new.all flat = true then some (.val (.int .i64 (min m n : Nat)), H.set b (some ⟨splice blk.cells off (new.take (min m n * z)), blk.ex⟩)) else none
          | none => none
        | _, _, _ => none
      | none => none
    | _, _ => none
  | _ => none

theorem scopy_sound {j : JMap} {H H' : Heap} {w : World} {ats : List TypeId} {ty : TypeId} {d x s' : SV} {vd vx : Value} (h : scopy P H ats d x = some (s', H')) (r : Rel j H w) (hd : VRel (OwnR j H) w j d vd) (hx : VRel (OwnR j H) w j x vx) :
    Sim P (Builtin.copy_ ats.toArray ty #[vd, vx]) j H w s' H' := by
  unfold scopy at h
  split at h
  · rename_i t tx
    split at h
    · rename_i e e2 he he2
      have hu := elemOf_under he
      split at h
      · rename_i z hz
        split at h
        · rename_i n old m new b off n0 cap0 sz ex hvx hvd
          split at h
          · rename_i blk hb
            split at h
            · rename_i hc
              obtain ⟨rfl, hflat⟩ := hc
              simp at h; obtain ⟨rfl, rfl⟩ := h
              obtain ⟨basex, capx, xs, rfl, x1, x2, x3⟩ := sview_mem hvx r hx
              have hl := sview_len hvx
              simp only [sview, hb] at hvd
              split at hvd
              · rename_i hle
                simp at hvd
                obtain ⟨rfl, _⟩ := hvd
                simp only [VRel] at hd
                obtain ⟨rb, bs, a, cap', c, e', fr, q1, rfl, q3, q4, q5, q6, q7, q8⟩ := hd
                have hmin : min m n0 * sz ≤ m * sz := Nat.mul_le_mul_right _ (Nat.min_le_left _ _)
                have hmin2 : min m n0 * sz ≤ n0 * sz := Nat.mul_le_mul_right _ (Nat.min_le_right _ _)
                have hlx := x2.take (min m n0 * sz)
                have hxl : (xs.take (min m n0 * sz)).length = min m n0 * sz := by
                  have := x2.length
                  simp; omega
                have hcl : (new.take (min m n0 * sz)).length = min m n0 * sz := by simp; omega
                have hfirst : (Builtin.firstCells sz (min m n0) (.slice basex m capx)).run P w = .ok (xs.take (min m n0 * sz)).toArray w := by
                  rcases x3 with ⟨rfl, rfl, rfl⟩ | ⟨a', rfl, x3⟩
                  · have : xs.take (min 0 n0 * sz) = [] := by simp
                    rw [this]
                    exact run_firstCells_none w _ _ _ _
                  · refine run_firstCells_some w sz (min m n0) a' m capx _ hxl (fun i u hi => ?_)
                    rw [List.getElem?_take] at hi
                    split at hi
                    · exact x3 i u hi
                    · simp at hi
                obtain ⟨p1, p2, p3, p4⟩ := setCells_rel (new.take (min m n0 * sz)) _ r hb q1 off (by rw [hcl]; omega) hlx
                by_cases h0 : min m n0 * sz = 0
                · have hnil : xs.take (min m n0 * sz) = [] := by rw [h0]; simp
                  rw [hnil] at hfirst p3 p4
                  simp only [World.setCells] at p3 p4
                  refine ⟨.int .i64 (min m n0 : Nat), w, j, ?_, p3, by simp only [VRel], p4⟩
                  simp [Builtin.copy_, run_underlying hu, Builtin.lenOf, szOf_run hz, hfirst, storeCells, goInt, Nat.min_def] at hfirst ⊢
                  first | done | simp [hfirst]
                · have hn0 : n0 ≠ 0 := by rintro rfl; simp at h0
                  have ha : a = ⟨rb, bs + off, none⟩ := q6.resolve_left (by omega)
                  subst ha
                  have hst := run_storeCells_cells (P := P) rb (bs + off) (xs.take (min m n0 * sz)) 0 w (by simpa using p1) (by simpa using p2) (LRel.ones (by
                    refine List.all_eq_true.2 (fun y hy => List.all_eq_true.1 hflat y (List.mem_of_mem_take hy))) hlx)
                  refine ⟨.int .i64 (min m n0 : Nat), _, j, ?_, p3, by simp only [VRel], p4⟩
                  have hmm : Nat.min m n0 = min m n0 := rfl
                  have hst' : (storeCells ⟨rb, bs + off, none⟩ (List.take (min m n0 * sz) xs)).run P w = .ok () (w.setCells rb (bs + off) (List.take (min m n0 * sz) xs)) := by simpa using hst
                  simp [Builtin.copy_, run_underlying hu, Builtin.lenOf, szOf_run hz, hmm, hfirst, goInt, hst']
              · simp at hvd
            · simp at h
          · simp at h
        · simp at h
      · simp at h
    · simp at h
  · simp at h
end Go.Sh
