/-
  Where two texts differ (chapter 41), the reference's marks.
-/
import Derived.Test.YtlmmmibnnbceeaaDoorDRef
import Derived.Test.YtlmmmibnnbceeaaDoorDraw
namespace Go.Proofs.YtlmmmibnnbceeaaDoor
open Go.RowKit
set_option linter.unusedVariables false
set_option linter.unusedSimpArgs false

/-- marks: the first k of n places are marked as p says -/
structure MK (W : World) (g n k : Nat) (p : Nat → Bool) : Prop where
  c : ∀ j, j < n → W.cell? ⟨g, j, none⟩ = some (.bool (decide (j < k) && p j))
  f : ∀ j, j < n → W.frozen? ⟨g, j, none⟩ = false
theorem cell_off {W : World} {g i j : Nat} {v u : Value} (h : W.cell? ⟨g, j, none⟩ = some u) (hne : i ≠ j) : (W.setCell ⟨g, i, none⟩ v).cell? ⟨g, j, none⟩ = some u := by
  simp [go_sem, h, hne]
theorem cell_same {W : World} {g j : Nat} {v u : Value} (h : W.cell? ⟨g, j, none⟩ = some u) : (W.setCell ⟨g, j, none⟩ v).cell? ⟨g, j, none⟩ = some v := by
  simp [go_sem, h]
theorem MK.step {W : World} {g n k : Nat} {p : Nat → Bool} (h : MK W g n k p) (hk : k < n) : MK (W.setCell ⟨g, k, none⟩ (.bool (p k))) g n (k + 1) p := by
  refine ⟨fun j hj => ?_, fun j hj => (World.frozen?_setCell _ _ _ _).trans (h.f j hj)⟩
  by_cases e : k = j
  · subst e
    rw [cell_same (h.c k hj), decide_eq_true (by omega), Bool.true_and]
  · have : decide (j < k + 1) = decide (j < k) := by rw [decide_eq_decide]; omega
    rw [this]
    exact cell_off (h.c j hj) e
theorem alb' (W : World) (o : Obj) : Below W.heap.size W (W.alloc o) := (Below.refl _ _).alloc (Nat.le_refl _) _
theorem MK.keep {W W' : World} {g n k : Nat} {p : Nat → Bool} (h : MK W g n k p) (hb : Below W.heap.size W W') : MK W' g n k p := ⟨fun j hj => bkeep hb (h.c j hj), fun j hj => bfree hb (h.c j hj) (h.f j hj)⟩
end Go.Proofs.YtlmmmibnnbceeaaDoor
