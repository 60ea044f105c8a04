/-
  From the values that came in to the shadow's: lists of triangles.
-/
import Derived.Test.YtehimkdkflnkbaaLift
import Derived.Test.YtehimkdkflnkbaaX1
namespace Go.Sh
set_option linter.unusedSimpArgs false
set_option linter.unusedVariables false
open Go Go.RowKit
open Go.ChangeShapes Go.WideShapes

theorem tris_get {T : List Tri} {i : Nat} {s : SV} (h : (encL tri4 T)[i]? = some s) : ∃ t, T[i / 4]? = some t ∧ (tri4 t)[i % 4]? = some s := by
  have hi : i < T.length * 4 := by
    have := (List.getElem?_eq_some_iff.1 h).1
    rwa [encL_length (z := 4) tri4_z] at this
  have h3 : i / 4 < T.length := by omega
  have e : i = i / 4 * 4 + i % 4 := by omega
  rw [e, encL_at (z := 4) tri4_z h3 (by omega)] at h
  exact ⟨T[i / 4], by simp [h3], h⟩

theorem cell_tris {Hh : Type} {enc : TypeId × Value → Hh} {P : Program} {w : World} {held : Bool} {t e : TypeId} {f0 f1 f2 f3 : Field} {fuel : Nat} {v : Value} {x : DataW Hh × List MemPlace} (ht : P.underlying t = some (.slice e)) (he : P.underlying e = some (.struct #[f0, f1, f2, f3])) (ce : P.cellsOf e = 4)
    (o0 : f0.offset = 0) (o1 : f1.offset = 1) (o2 : f2.offset = 2) (o3 : f3.offset = 3) (u0 : P.underlying f0.type = some (.int .i64)) (u1 : P.underlying f1.type = some (.int .i64)) (u2 : P.underlying f2.type = some (.int .i64)) (u3 : P.underlying f3.type = some (.int .i64))
    (c0 : P.cellsOf f0.type = 1) (c1 : P.cellsOf f1.type = 1) (c2 : P.cellsOf f2.type = 1) (c3 : P.cellsOf f3.type = 1)
    (h : DataW.trod enc P w 0 (fun _ => true) held fuel t [v] = some x) : ∃ T : List Tri, VRel (fun _ => False) w noj (rt T) v ∧ (∀ t ∈ T, i64R t.1 ∧ i64R t.2.1 ∧ i64R t.2.2.1 ∧ i64R t.2.2.2) ∧ T.length ≤ maxLen := by
  rcases Deep.open_slice ht h with ⟨hcs, _⟩ | ⟨a, len, cap, m, n, D, Pl, hcs, hb, hl, hm, hmm, _, hx⟩
  · simp at hcs
    subst hcs
    refine ⟨[], ?_, by simp, by simp⟩
    simp only [rt, VRel]
    exact ⟨none, 0, rfl, Nat.le_refl _, by simp, .inl (by simp [encL])⟩
  · simp at hcs
    subst hcs
    simp only [if_true] at hmm
    subst hmm
    rw [ce] at hx
    obtain ⟨C, hC⟩ := Deep.choose_lt (α := Tri) (p := fun i c => (∀ k s, (tri4 c)[k]? = some s → ∃ u, w.cell? (a.add (i * 4 + k)) = some u ∧ VRel (fun _ => False) w noj s u) ∧ (i64R c.1 ∧ i64R c.2.1 ∧ i64R c.2.2.1 ∧ i64R c.2.2.2)) (fun i hi => by
      obtain ⟨cs, h1, h2⟩ := hx i hi
      obtain ⟨_, hlen, hcell⟩ := World.cells?_some h1
      obtain ⟨xs, k, hk, hxy, _, hxl, hf⟩ := DataW.trod_struct he h2
      match xs, hxl, cs, hlen with
      | [y0, y1, y2, y3], _, [v0, v1, v2, v3], _ =>
        have g0 := hf 0 f0 rfl
        have g1 := hf 1 f1 rfl
        have g2 := hf 2 f2 rfl
        have g3 := hf 3 f3 rfl
        simp [o0, o1, o2, o3, c0, c1, c2, c3] at g0 g1 g2 g3
        obtain ⟨n0, q0, _, w0⟩ := DataW.trod_int u0 g0
        obtain ⟨n1, q1, _, w1⟩ := DataW.trod_int u1 g1
        obtain ⟨n2, q2, _, w2⟩ := DataW.trod_int u2 g2
        obtain ⟨n3, q3, _, w3⟩ := DataW.trod_int u3 g3
        simp at q0 q1 q2 q3
        subst q0 q1 q2 q3
        have e0 := hcell 0 (by omega)
        have e1 := hcell 1 (by omega)
        have e2 := hcell 2 (by omega)
        have e3 := hcell 3 (by omega)
        rw [Deep.add_add] at e0 e1 e2 e3
        refine ⟨(n0, n1, n2, n3), ?_, wf_i64 w0, wf_i64 w1, wf_i64 w2, wf_i64 w3⟩
        intro k s hs
        match k, hs with
        | 0, hs => simp [tri4] at hs; subst hs; exact ⟨_, by simpa using e0, by simp only [VRel]⟩
        | 1, hs => simp [tri4] at hs; subst hs; exact ⟨_, by simpa using e1, by simp only [VRel]⟩
        | 2, hs => simp [tri4] at hs; subst hs; exact ⟨_, by simpa using e2, by simp only [VRel]⟩
        | 3, hs => simp [tri4] at hs; subst hs; exact ⟨_, by simpa using e3, by simp only [VRel]⟩
        | k + 4, hs => simp [tri4] at hs)
    refine ⟨(List.range len).map C, ?_, ?_, by simp; omega⟩
    · simp only [rt, VRel]
      refine ⟨some a, m, by simp, by simpa using hl, by simp, .inr ⟨a, rfl, crel_fn (fun i s hi => ?_)⟩⟩
      obtain ⟨c, h1, h2⟩ := tris_get hi
      have hi3 : i / 4 < len := by
        have := (List.getElem?_eq_some_iff.1 h1).1
        simpa using this
      obtain rfl : C (i / 4) = c := by simpa [hi3] using h1
      obtain ⟨u, g1, g2⟩ := (hC (i / 4) (by omega)).1 _ _ h2
      exact ⟨u, by rw [← g1]; congr 2; omega, g2⟩
    · intro c hc
      simp only [List.mem_map, List.mem_range] at hc
      obtain ⟨i, hi, rfl⟩ := hc
      exact (hC i (by omega)).2
end Go.Sh
