/-
  The operations, further: slices cut, made, appended to, copied; literals; arithmetic and comparisons; len, cap, min, max.
-/
import Derived.Test.YtehimkdkflnkbaaShC
namespace Go.Sh
set_option linter.unusedSimpArgs false
set_option linter.unusedVariables false
open Go Go.RowKit
variable {P : Program}

def natOf : SV → Option Nat
  | .val (.int _ i) => if 0 ≤ i then some i.toNat else none
  | _ => none
def bnd (d : Nat) : Option SV → Option Nat
  | none => some d
  | some s => natOf s

theorem natOf_rel {O : Nat → Prop} {w : World} {j : JMap} {s : SV} {v : Value} {n : Nat} (h : natOf s = some n) (hv : VRel O w j s v) : ∃ k, v = .int k n := by
  unfold natOf at h
  split at h
  · rename_i k i
    split at h
    · rename_i h0
      simp at h
      simp only [VRel] at hv
      subst hv
      exact ⟨k, by congr 1; omega⟩
    · simp at h
  · simp at h

/-- The bounds of a cut, as the machine works them out. -/
theorem bounds_run (isS : Bool) (len cap : Nat) (lo hi mx : Option Value) (l h m : Nat) (w : World) (hlo : (lo = none ∧ l = 0) ∨ ∃ k, lo = some (.int k l)) (hhi : (hi = none ∧ mx = none ∧ h = len) ∨ ∃ k, hi = some (.int k h))
    (hmx : (mx = none ∧ m = cap) ∨ ∃ k, mx = some (.int k m)) (h1 : l ≤ h) (h2 : h ≤ m) (h3 : m ≤ cap) : (Instr.sliceBounds isS len cap lo hi mx).run P w = .ok (l, h, m) w := by
  rcases hlo with ⟨rfl, rfl⟩ | ⟨kl, rfl⟩ <;> rcases hhi with ⟨rfl, hm0, rfl⟩ | ⟨kh, rfl⟩ <;> rcases hmx with ⟨rfl, rfl⟩ | ⟨km, rfl⟩ <;>
    first
      | (simp at hm0; done)
      | (simp [Instr.sliceBounds, Instr.sliceBound, asIntOf, h1, h2, h3]; done)
      | (simp [Instr.sliceBounds, Instr.sliceBound, asIntOf, h1, h2, h3]; omega)

theorem bnd_rel {O : Nat → Prop} {w : World} {j : JMap} {d n : Nat} {s : Option SV} {v : Option Value} (h : bnd d s = some n) (hv : ∀ x, s = some x → ∃ u, v = some u ∧ VRel O w j x u) (hn : s = none → v = none) :
    (s = none ∧ v = none ∧ n = d) ∨ ∃ k, v = some (.int k n) := by
  cases s with
  | none => simp [bnd] at h; exact .inl ⟨rfl, hn rfl, h.symm⟩
  | some x =>
    obtain ⟨u, rfl, hu⟩ := hv x rfl
    obtain ⟨k, rfl⟩ := natOf_rel (by simpa [bnd] using h) hu
    exact .inr ⟨k, rfl⟩

theorem CRel.drop' {O : Nat → Prop} {w : World} {ss : List SV} {a : Addr} (i : Nat) (h : CRel O w ss a) : CRel O w (ss.drop i) (a.add i) := by
  have := CRel.drop i h
  unfold Go.Addr.add
  by_cases h0 : i = 0
  · simpa [h0] using this
  · simp only [h0, if_false] at this ⊢
    exact this

def sslice (P : Program) (H : Heap) (t : TypeId) (x : SV) (lo hi mx : Option SV) : Option SV :=
  if hi.isNone && mx.isSome then none else
  match P.underlying t with
  | some .string => match x, mx with
    | .val (.string s), none => match bnd 0 lo, bnd s.size hi with
      | some l, some h => if l ≤ h ∧ h ≤ s.size then some (.val (.string (s.extract l h))) else none
      | _, _ => none
    | _, _ => none
  | some (.slice e) => match szOf P e with
    | some z => match x with
      | .val (.slice none 0 0) => match bnd 0 lo, bnd 0 hi, bnd 0 mx with
        | some 0, some 0, some 0 => some (.val (.slice none 0 0))
        | _, _, _ => none
      | .row n ex cs => match bnd 0 lo, bnd n hi, bnd n mx with
        | some l, some h, some m => if l ≤ h ∧ h ≤ m ∧ m ≤ n then some (.row (h - l) (match mx with | some _ => m == h | none => ex && h == n) ((cs.drop (l * z)).take ((h - l) * z))) else none
        | _, _, _ => none
      | .own b off n cap sz ex => match bnd 0 lo, bnd n hi, bnd cap mx with
        | some l, some h, some m => if l ≤ h ∧ h ≤ m ∧ m ≤ cap ∧ sz = z then some (.own b (off + l * z) (h - l) (m - l) z (mx.isSome || ex)) else none
        | _, _, _ => none
      | _ => none
    | none => none
  | some (.array n e) => match szOf P e with
    | some z => match x with
      | .optr b off => match H.map b with
        | some blk => match bnd 0 lo, bnd n hi, bnd n mx with
          | some l, some h, some m => if l ≤ h ∧ h ≤ m ∧ m ≤ n ∧ off + n * z ≤ blk.cells.length then some (.own b (off + l * z) (h - l) (m - l) z true) else none
          | _, _, _ => none
        | none => none
      | _ => none
    | none => none
  | _ => none

theorem bnd_hi {O : Nat → Prop} {w : World} {j : JMap} {d n : Nat} {hi mx : Option SV} {vhi vmx : Option Value} (hc : ¬ (hi.isNone && mx.isSome) = true) (h : bnd d hi = some n)
    (h1 : ∀ x, hi = some x → ∃ u, vhi = some u ∧ VRel O w j x u) (h2 : hi = none → vhi = none) (h3 : mx = none → vmx = none) :
    (vhi = none ∧ vmx = none ∧ n = d) ∨ ∃ k, vhi = some (.int k n) := by
  rcases bnd_rel h h1 h2 with ⟨rfl, h4, h5⟩ | h4
  · cases mx with
    | none => exact .inl ⟨h4, h3 rfl, h5⟩
    | some m => simp at hc
  · exact .inr h4

theorem sslice_sound {j : JMap} {H : Heap} {w : World} {t : TypeId} {x s : SV} {lo hi mx : Option SV} {vx : Value} {vlo vhi vmx : Option Value} (h : sslice P H t x lo hi mx = some s) (r : Rel j H w)
    (hx : VRel (OwnR j H) w j x vx) (hlo : ∀ y, lo = some y → ∃ u, vlo = some u ∧ VRel (OwnR j H) w j y u) (hlo' : lo = none → vlo = none)
    (hhi : ∀ y, hi = some y → ∃ u, vhi = some u ∧ VRel (OwnR j H) w j y u) (hhi' : hi = none → vhi = none)
    (hmx : ∀ y, mx = some y → ∃ u, vmx = some u ∧ VRel (OwnR j H) w j y u) (hmx' : mx = none → vmx = none) :
    Sim P (Instr.sliceAt t vx vlo vhi vmx) j H w s H := by
  unfold sslice at h
  split at h
  · simp at h
  rename_i hc
  split at h
  · rename_i hu
    split at h
    · rename_i _ _ s'
      simp only [VRel] at hx; subst hx
      have := hmx' rfl; subst this
      split at h
      · rename_i l hh el eh
        split at h
        · rename_i hb
          simp at h; subst h
          have b1 := bnd_rel el hlo hlo'
          have b2 := bnd_hi hc eh hhi hhi' hmx'
          have hr := bounds_run (P := P) false s'.size s'.size vlo vhi none l hh s'.size w (by rcases b1 with ⟨_, a, b⟩ | a; exact .inl ⟨a, b⟩; exact .inr a) b2 (.inl ⟨rfl, rfl⟩) hb.1 hb.2 (Nat.le_refl _)
          refine Sim.same r (v := .string (s'.extract l hh)) ?_ (by simp only [VRel])
          simp [Instr.sliceAt, Instr.slice, run_underlying hu, hr]
        · simp at h
      · simp at h
    · simp at h
  · rename_i e hu
    split at h
    · rename_i z hz
      have hel : P.underlying t = some (.slice (P.elem t)) := by
        have : P.elem t = e := by simp [Program.elem, hu]
        rw [this]; exact hu
      have hee : P.elem t = e := by simp [Program.elem, hu]
      have hz' : ∀ w : World, (sizeOf (P.elem t)).run P w = .ok z w := fun w => by rw [hee]; exact szOf_run hz w
      have key : ∀ (a : Option Addr) (len cap l hh m : Nat), (Instr.sliceBounds true len cap vlo vhi vmx).run P w = .ok (l, hh, m) w →
          (Instr.sliceAt t (.slice a len cap) vlo vhi vmx).run P w = .ok (.slice (if m = l then a else a.map (·.add (l * z))) (hh - l) (m - l)) w := by
        intro a len cap l hh m hr
        rw [run_sliceAt_slice (P := P) w t _ _ _ _ hel, run_slice_any (P := P) w t a len cap hel, hr]
        simp [Result.andThen, hz', sliced]
      split at h
      · simp only [VRel] at hx; subst hx
        split at h
        · rename_i el eh em
          simp at h; subst h
          have b1 := bnd_rel el hlo hlo'
          have b2 := bnd_hi hc eh hhi hhi' hmx'
          have b3 := bnd_rel em hmx hmx'
          have hr := bounds_run (P := P) true 0 0 vlo vhi vmx 0 0 0 w (by rcases b1 with ⟨_, a, b⟩ | a; exact .inl ⟨a, rfl⟩; exact .inr a) b2 (by rcases b3 with ⟨_, a, b⟩ | a; exact .inl ⟨a, rfl⟩; exact .inr a) (Nat.le_refl _) (Nat.le_refl _) (Nat.le_refl _)
          refine Sim.same r (v := .slice none 0 0) ?_ (by simp only [VRel])
          rw [key _ _ _ _ _ _ hr]; simp
        · simp at h
      · rename_i n ex cs
        split at h
        · rename_i l hh m el eh em
          split at h
          · rename_i hb
            simp at h; subst h
            simp only [VRel] at hx
            obtain ⟨a, cap, rfl, g1, g2, g3⟩ := hx
            have b1 := bnd_rel el hlo hlo'
            have b2 := bnd_hi hc eh hhi hhi' hmx'
            have b3 := bnd_rel em hmx hmx'
            have hlast : ∃ m', (Instr.sliceBounds true n cap vlo vhi vmx).run P w = .ok (l, hh, m') w ∧ hh ≤ m' ∧ ((mx = none ∧ m' = cap) ∨ (mx.isSome ∧ m' = m)) := by
              rcases b3 with ⟨c1, c2, c3⟩ | ⟨k, c⟩
              · exact ⟨cap, bounds_run true n cap vlo vhi vmx l hh cap w (by rcases b1 with ⟨_, a, b⟩ | a; exact .inl ⟨a, b⟩; exact .inr a) b2 (.inl ⟨c2, rfl⟩) hb.1 (by omega) (Nat.le_refl _), by omega, .inl ⟨c1, rfl⟩⟩
              · refine ⟨m, bounds_run true n cap vlo vhi vmx l hh m w (by rcases b1 with ⟨_, a, b⟩ | a; exact .inl ⟨a, b⟩; exact .inr a) b2 (.inr ⟨k, c⟩) hb.1 hb.2.1 (by omega), hb.2.1, ?_⟩
                cases mx with
                | none => simp at hmx'; subst hmx'; simp at c
                | some y => exact .inr ⟨rfl, rfl⟩
            obtain ⟨m', hr, hle, hcase⟩ := hlast
            refine Sim.same r (key _ _ _ _ _ _ hr) ?_
            simp only [VRel]
            refine ⟨if m' = l then a else a.map (·.add (l * z)), m' - l, rfl, by omega, ?_, ?_⟩
            · intro hx
              rcases hcase with ⟨rfl, rfl⟩ | ⟨c1, rfl⟩
              · simp at hx
                have := g2 hx.1
                omega
              · cases mx with
                | none => simp at c1
                | some y => simp at hx; omega
            · rcases g3 with ⟨rfl, rfl, rfl, rfl⟩ | ⟨b, rfl, g3⟩
              · left
                have h0 : m' = 0 := by
                  rcases hcase with ⟨_, e⟩ | ⟨_, e⟩ <;> omega
                exact ⟨by simp, by omega, by omega, by simp⟩
              · right
                by_cases hml : m' = l
                · have : hh - l = 0 := by omega
                  exact ⟨b, by simp [hml], by simp only [this, Nat.zero_mul, List.take_zero, CRel]⟩
                · exact ⟨b.add (l * z), by simp [hml], (CRel.drop' _ g3).take _⟩
          · simp at h
        · simp at h
      · rename_i b off n cap sz ex
        split at h
        · rename_i l hh m el eh em
          split at h
          · rename_i hb
            obtain ⟨hb1, hb2, hb3, rfl⟩ := hb
            simp at h; subst h
            simp only [VRel] at hx
            obtain ⟨rb, base, a, cap', c, e', fr, g1, rfl, g3, g4, g5, g6, g7, g8⟩ := hx
            have b1 := bnd_rel el hlo hlo'
            have b2 := bnd_hi hc eh hhi hhi' hmx'
            have b3 := bnd_rel em hmx hmx'
            have hlast : ∃ m', (Instr.sliceBounds true n cap' vlo vhi vmx).run P w = .ok (l, hh, m') w ∧ m ≤ m' ∧ m' ≤ cap' ∧ ((mx = none ∧ m' = cap' ∧ m = cap) ∨ (mx.isSome ∧ m' = m)) := by
              rcases b3 with ⟨c1, c2, c3⟩ | ⟨k, c⟩
              · exact ⟨cap', bounds_run true n cap' vlo vhi vmx l hh cap' w (by rcases b1 with ⟨_, a, b⟩ | a; exact .inl ⟨a, b⟩; exact .inr a) b2 (.inl ⟨c2, rfl⟩) hb1 (by omega) (Nat.le_refl _), by omega, Nat.le_refl _, .inl ⟨c1, rfl, c3⟩⟩
              · refine ⟨m, bounds_run true n cap' vlo vhi vmx l hh m w (by rcases b1 with ⟨_, a, b⟩ | a; exact .inl ⟨a, b⟩; exact .inr a) b2 (.inr ⟨k, c⟩) hb1 hb2 (by omega), Nat.le_refl _, by omega, ?_⟩
                cases mx with
                | none => simp at hmx'; subst hmx'; simp at c
                | some y => exact .inr ⟨rfl, rfl⟩
            obtain ⟨m', hr, hle, hle', hcase⟩ := hlast
            refine Sim.same r (key _ _ _ _ _ _ hr) ?_
            simp only [VRel]
            refine ⟨rb, base, if m' = l then a else a.add (l * sz), m' - l, c, e', fr, g1, by split <;> simp, by omega, by omega, ?_, ?_, g7, ?_⟩
            · intro hx
              rcases hcase with ⟨rfl, rfl, rfl⟩ | ⟨c1, rfl⟩
              · simp at hx
                have := g5 hx
                omega
              · rfl
            · by_cases hml : m' = l
              · exact .inl (by omega)
              · right
                have ha : a = ⟨rb, base + off, none⟩ := g6.resolve_left (by omega)
                rw [if_neg hml, ha, Addr.add_lit, Nat.add_assoc]
            · have e1 : base + (off + l * sz) + (m' - l) * sz = base + off + (l + (m' - l)) * sz := by rw [Nat.add_mul]; omega
              have e2 : (l + (m' - l)) * sz ≤ cap' * sz := Nat.mul_le_mul_right _ (by omega)
              omega
          · simp at h
        · simp at h
      · simp at h
    · simp at h
  · rename_i n e hu
    split at h
    · rename_i z hz
      split at h
      · rename_i b off
        split at h
        · rename_i blk hb
          split at h
          · rename_i l hh m el eh em
            split at h
            · rename_i hcnd
              simp at h; subst h
              simp only [VRel] at hx
              obtain ⟨rb, base, g1, rfl⟩ := hx
              have b1 := bnd_rel el hlo hlo'
              have b2 := bnd_hi hc eh hhi hhi' hmx'
              have b3 := bnd_rel em hmx hmx'
              have hr := bounds_run (P := P) false n n vlo vhi vmx l hh m w (by rcases b1 with ⟨_, a, b⟩ | a; exact .inl ⟨a, b⟩; exact .inr a) b2 (by rcases b3 with ⟨_, a, b⟩ | a; exact .inl ⟨a, b⟩; exact .inr a) hcnd.1 hcnd.2.1 hcnd.2.2.1
              obtain ⟨rb', base', k1, c, e', lo', hi', k2, k3, k4, _, _⟩ := r.live b blk hb
              rw [g1] at k1
              obtain ⟨rfl, rfl⟩ := (by simpa using k1 : rb = rb' ∧ base = base')
              refine Sim.same r (v := .slice (some (if m = l then ⟨rb, base + off, none⟩ else (⟨rb, base + off, none⟩ : Addr).add (l * z))) (hh - l) (m - l)) ?_ ?_
              · simp [Instr.sliceAt, run_underlying hu, Instr.sureAddr, hr, szOf_run hz]
              · simp only [VRel]
                refine ⟨rb, base, _, m - l, c, e', (lo', hi'), g1, rfl, by omega, Nat.le_refl _, fun _ => rfl, ?_, k2, ?_⟩
                · by_cases hml : m = l
                  · exact .inl (by omega)
                  · right; rw [if_neg hml, Addr.add_lit, Nat.add_assoc]
                · have e1 : base + (off + l * z) + (m - l) * z = base + off + (l + (m - l)) * z := by rw [Nat.add_mul]; omega
                  have e2 : (l + (m - l)) * z ≤ n * z := Nat.mul_le_mul_right _ (by omega)
                  omega
            · simp at h
          · simp at h
        · simp at h
      · simp at h
    · simp at h
  · simp at h

/-! ### New memory -/
def rep (zs : List SV) (n : Nat) : List SV := (List.range n).map fun i => zs.getD (i % zs.length) .undef
theorem rep_one (s : SV) (n : Nat) : rep [s] n = List.replicate n s := by
  unfold rep
  apply List.ext_getElem <;> simp [Nat.mod_one]

def smake (P : Program) (H : Heap) (t : TypeId) (l c : SV) : Option (SV × Heap) :=
  match elemOfSlice P t with
  | some e => match szOf P e, bytesIn P e, zeroOf P e with
    | some z, some by_, some zs => match natOf l, natOf c with
      | some l, some c => if l ≤ c ∧ by_ * c ≤ 281474976710656 ∧ c ≤ 9223372036854775807 then some (.own H.nb 0 l c z true, H.push ⟨rep zs (c * z), true⟩) else none
      | _, _ => none
    | _, _, _ => none
  | none => none

theorem zeroOf_info {t : TypeId} {zs : List SV} (h : zeroOf P t = some zs) : ∃ i z, P.info? t = some i ∧ i.zero = some z ∧ zs = z.cells.toList.map SV.val := by
  unfold zeroOf at h
  cases hi : P.info? t with
  | none => simp [hi] at h
  | some i =>
    cases hz : i.zero with
    | none => simp [hi, hz] at h
    | some z => simp [hi, hz] at h; exact ⟨i, z, rfl, hz, h.symm⟩

theorem smake_sound {j : JMap} {H H' : Heap} {w : World} {t : TypeId} {l c s : SV} {vl vc : Value} (h : smake P H t l c = some (s, H')) (r : Rel j H w) (hl : VRel (OwnR j H) w j l vl) (hc : VRel (OwnR j H) w j c vc) :
    Sim P (Instr.makeSlice t vl vc) j H w s H' := by
  unfold smake at h
  split at h
  · rename_i e he
    have hu := elemOf_under he
    split at h
    · rename_i z by_ zs hz hby hzs
      split at h
      · rename_i l c el ec
        split at h
        · rename_i hb
          simp at h
          obtain ⟨rfl, rfl⟩ := h
          obtain ⟨kl, rfl⟩ := natOf_rel el hl
          obtain ⟨kc, rfl⟩ := natOf_rel ec hc
          obtain ⟨i, zv, hi, hzv, rfl⟩ := zeroOf_info hzs
          have e1 : i.size = z := by simpa [szOf, hi] using hz
          have e2 : i.bytes = by_ := by simpa [bytesIn, hi] using hby
          have hbytes : (i.bytes : Int) * (c : Int) ≤ 281474976710656 := by
            have : ((i.bytes * c : Nat) : Int) ≤ 281474976710656 := by rw [e2]; omega
            rwa [Int.natCast_mul] at this
          have hrun := run_make (P := P) w t e i zv hu hi hzv kl kc l c (by omega) (by omega) hbytes (by omega)
          simp only [Int.toNat_natCast, e1] at hrun
          have hal := alloc_rel r (madeCells zv.cells (c * z)) e ⟨rep (zv.cells.toList.map SV.val) (c * z), true⟩ (by simp [rep, size_madeCells]) (by simp [rep, size_madeCells]) (fun i s hi => by
            simp only [rep, List.getElem?_map] at hi
            have hlt : i < c * z := by
              rcases Nat.lt_or_ge i (c * z) with h | h
              · exact h
              · simp [h] at hi
            simp [hlt] at hi
            refine ⟨zv.cells[i % zv.cells.size]!, by simp [madeCells, hlt], ?_⟩
            subst hi
            by_cases hm : i % zv.cells.size < zv.cells.size
            · simp [hm, VRel]
            · simp [List.getElem?_eq_none (Nat.le_of_not_lt hm), Array.getElem?_eq_none (Nat.le_of_not_lt hm), VRel])
          refine ⟨_, _, _, hrun, hal.1, ?_, hal.2⟩
          simp only [VRel]
          refine ⟨w.heap.size, 0, _, c, madeCells zv.cells (c * z), e, (0, 0), by simp [JMap.put], rfl, hb.1, Nat.le_refl _, fun _ => rfl, .inr (by simp), heap_alloc_new w _, by simp [size_madeCells]⟩
        · simp at h
      · simp at h
    · simp at h
  · simp at h

def salloc (P : Program) (H : Heap) (t : TypeId) : Option (SV × Heap) :=
  match zeroOf P t with
  | some zs => some (.optr H.nb 0, H.push ⟨zs, true⟩)
  | none => none
theorem salloc_sound {j : JMap} {H H' : Heap} {w : World} {t : TypeId} {s : SV} (h : salloc P H t = some (s, H')) (r : Rel j H w) : Sim P (Instr.alloc t true (.tuple #[])) j H w s H' := by
  unfold salloc at h
  split at h
  · rename_i zs hzs
    simp at h
    obtain ⟨rfl, rfl⟩ := h
    obtain ⟨i, zv, hi, hzv, rfl⟩ := zeroOf_info hzs
    have hal := alloc_rel r zv.cells t ⟨zv.cells.toList.map SV.val, true⟩ (by simp) (by simp) (fun i s hi => by
      simp at hi
      obtain ⟨v, h1, rfl⟩ := hi
      exact ⟨v, h1, by simp only [VRel]⟩)
    refine ⟨.pointer (some ⟨w.heap.size, 0, none⟩), _, _, ?_, hal.1, ?_, hal.2⟩
    · simp [Instr.alloc, zeroValue, typeInfo, hi, hzv, newVar, newRow]
    · simp only [VRel]; exact ⟨w.heap.size, 0, by simp [JMap.put], by simp⟩
  · simp at h

def sbox (H : Heap) (x : SV) : Option (SV × Heap) :=
  match cellsOf x with
  | some cs => some (.optr H.nb 0, H.push ⟨cs, true⟩)
  | none => none
theorem sbox_sound {j : JMap} {H H' : Heap} {w : World} {t : TypeId} {x s : SV} {v : Value} (h : sbox H x = some (s, H')) (r : Rel j H w) (hx : VRel (OwnR j H) w j x v) : Sim P (Instr.box t v) j H w s H' := by
  unfold sbox at h
  split at h
  · rename_i cs hcs
    simp at h
    obtain ⟨rfl, rfl⟩ := h
    have hl := cells_rel hcs hx
    have hlen := hl.length
    have hal := alloc_rel r v.cells t ⟨cs, true⟩ (by simp at hlen; simp [hlen]) (by simp at hlen; simp [hlen]) (fun i s hi => by
      obtain ⟨u, h1, h2⟩ := hl.get hi
      exact ⟨u, by simpa using h1, h2⟩)
    refine ⟨.pointer (some ⟨w.heap.size, 0, none⟩), _, _, ?_, hal.1, ?_, hal.2⟩
    · simp [Instr.box, newVar, newRow]
    · simp only [VRel]; exact ⟨w.heap.size, 0, by simp [JMap.put], by simp⟩
  · simp at h
end Go.Sh
