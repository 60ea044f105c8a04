/-
  Sets of items as bits.
-/
import Derived.Test.YtehimkdkflnkbaaShK
namespace Go.Sh
set_option linter.unusedSimpArgs false
set_option linter.unusedVariables false
open Go

theorem bit_step : ∀ m : _root_.Fin 256, ∀ x y : _root_.Fin 8, 0 ≤ kor .i64 (m.val : Int) (kshl .i64 1 (x.val : Int)) ∧ kor .i64 (m.val : Int) (kshl .i64 1 (x.val : Int)) < 256 ∧
    (kand .i64 (kshr .i64 (kor .i64 (m.val : Int) (kshl .i64 1 (x.val : Int))) (y.val : Int)) 1 = 1 ↔ (kand .i64 (kshr .i64 (m.val : Int) (y.val : Int)) 1 = 1 ∨ y = x)) := by decide +kernel

def bits (m : Int) (L : List Int) : Prop := 0 ≤ m ∧ m < 256 ∧ ∀ y : Int, 0 ≤ y → y < 8 → (kand .i64 (kshr .i64 m y) 1 = 1 ↔ y ∈ L)
theorem bits_nil : bits 0 [] := by
  refine ⟨by omega, by omega, ?_⟩
  have h : ∀ y : _root_.Fin 8, ¬ kand .i64 (kshr .i64 0 (y.val : Int)) 1 = 1 := by decide +kernel
  intro y h1 h2
  have := h ⟨y.toNat, by omega⟩
  simp only [Int.toNat_of_nonneg h1] at this
  simp [this]
theorem bits_step {m x : Int} {L : List Int} (h : bits m L) (h1 : 0 ≤ x) (h2 : x < 8) : bits (kor .i64 m (kshl .i64 1 x)) (L ++ [x]) := by
  obtain ⟨a, b, c⟩ := h
  have e (y : Int) (h3 : 0 ≤ y) (h4 : y < 8) := bit_step ⟨m.toNat, by omega⟩ ⟨x.toNat, by omega⟩ ⟨y.toNat, by omega⟩
  simp only [Int.toNat_of_nonneg a, Int.toNat_of_nonneg h1] at e
  refine ⟨(e 0 (by omega) (by omega)).1, (e 0 (by omega) (by omega)).2.1, fun y h3 h4 => ?_⟩
  have e2 := (e y h3 h4).2.2
  simp only [Int.toNat_of_nonneg h3] at e2
  rw [e2, List.mem_append, c y h3 h4, List.mem_singleton]
  have : ((⟨y.toNat, by omega⟩ : _root_.Fin 8) = ⟨x.toNat, by omega⟩) ↔ y = x := by
    rw [_root_.Fin.mk.injEq]; omega
  rw [this]
end Go.Sh
