/-
  Runs of places (chapter 41): what they are.
-/
import Derived.Test.YtlmmmibnnbceeaaDoorMine
namespace Go.Proofs.YtlmmmibnnbceeaaDoor
open Go.RowKit
set_option linter.unusedVariables false
set_option linter.unusedSimpArgs false

/-- the longest runs among the first i places -/
def rs (p : Nat → Bool) : Nat → List (Nat × Nat)
  | 0 => []
  | i + 1 => if p i = true then (if 0 < i ∧ p (i - 1) = true then (rs p i).dropLast ++ [(((rs p i).getLast?.getD (0, 0)).1, i + 1)] else rs p i ++ [(i, i + 1)]) else rs p i
theorem rs_no {p : Nat → Bool} {i : Nat} (h : p i = false) : rs p (i + 1) = rs p i := by
  show (if p i = true then _ else rs p i) = _
  rw [h]; rfl
theorem rs_run (p : Nat → Bool) (k : Nat) (h0 : k = 0 ∨ p (k - 1) = false) : ∀ d, (∀ j, k ≤ j → j < k + d + 1 → p j = true) → rs p (k + d + 1) = rs p k ++ [(k, k + d + 1)]
  | 0, h => by
    show (if p k = true then (if 0 < k ∧ p (k - 1) = true then _ else rs p k ++ [(k, k + 1)]) else rs p k) = rs p k ++ [(k, k + 1)]
    rw [if_pos (h k (Nat.le_refl _) (by omega)), if_neg]
    rintro ⟨a, b⟩
    rcases h0 with rfl | h0
    · omega
    · rw [h0] at b; cases b
  | d + 1, h => by
    have ih := rs_run p k h0 d (fun j a b => h j a (by omega))
    show (if p (k + (d + 1)) = true then (if 0 < k + (d + 1) ∧ p (k + (d + 1) - 1) = true then (rs p (k + (d + 1))).dropLast ++ [(((rs p (k + (d + 1))).getLast?.getD (0, 0)).1, k + (d + 1) + 1)] else _) else _) = _
    rw [if_pos (h _ (by omega) (by omega)), if_pos ⟨by omega, h _ (by omega) (by omega)⟩, show k + (d + 1) = k + d + 1 by omega, ih]
    simp
theorem rs_len (p : Nat → Bool) : ∀ i, (rs p i).length ≤ i
  | 0 => Nat.le_refl _
  | i + 1 => by
    have ih := rs_len p i
    show (if p i = true then (if 0 < i ∧ p (i - 1) = true then _ else rs p i ++ [(i, i + 1)]) else rs p i).length ≤ i + 1
    split
    · split
      · rw [List.length_append, List.length_dropLast]; simp; omega
      · rw [List.length_append]; simp; omega
    · omega
/-- a run within n places -/
abbrev SpN (n : Nat) := {x : Nat × Nat // x.1 < x.2 ∧ x.2 ≤ n}
def spV (x : Nat × Nat) : Value := .agg #[.int .i64 x.1, .int .i64 x.2]
theorem rs_key (p : Nat → Bool) : ∀ i, (∀ x ∈ rs p i, x.1 < x.2 ∧ x.2 ≤ i ∧ (∀ j, x.1 ≤ j → j < x.2 → p j = true)) ∧ (0 < i → p (i - 1) = true → ∃ X k, rs p i = X ++ [(k, i)]) := by
    intro i
    induction i with
    | zero => exact ⟨fun x h => (by cases h), fun h => (by omega)⟩
    | succ i ih =>
      obtain ⟨h1, h2⟩ := ih
      cases hp : p i with
      | false =>
        refine ⟨fun x hx => ?_, fun _ h => ?_⟩
        · rw [rs_no hp] at hx
          obtain ⟨a, b, c⟩ := h1 x hx
          exact ⟨a, by omega, c⟩
        · rw [show i + 1 - 1 = i by omega, hp] at h; cases h
      | true =>
        by_cases hq : 0 < i ∧ p (i - 1) = true
        · obtain ⟨X, k, hX⟩ := h2 hq.1 hq.2
          have e : rs p (i + 1) = X ++ [(k, i + 1)] := by
            show (if p i = true then (if 0 < i ∧ p (i - 1) = true then _ else _) else _) = _
            rw [if_pos hp, if_pos hq, hX]; simp
          have hk := h1 (k, i) (by rw [hX]; simp)
          refine ⟨fun x hx => ?_, fun _ _ => ⟨X, k, e⟩⟩
          rw [e, List.mem_append] at hx
          rcases hx with hx | hx
          · obtain ⟨a, b, c⟩ := h1 x (by rw [hX, List.mem_append]; exact .inl hx)
            exact ⟨a, by omega, c⟩
          · simp at hx; subst hx
            refine ⟨by have := hk.1; simp at this ⊢; omega, Nat.le_refl _, fun j a b => ?_⟩
            by_cases ej : j = i
            · rw [ej]; exact hp
            · exact hk.2.2 j a (by simp at b ⊢; omega)
        · have e : rs p (i + 1) = rs p i ++ [(i, i + 1)] := by
            show (if p i = true then (if 0 < i ∧ p (i - 1) = true then _ else _) else _) = _
            rw [if_pos hp, if_neg hq]
          refine ⟨fun x hx => ?_, fun _ _ => ⟨_, _, e⟩⟩
          rw [e, List.mem_append] at hx
          rcases hx with hx | hx
          · obtain ⟨a, b, c⟩ := h1 x hx
            exact ⟨a, by omega, c⟩
          · simp at hx; subst hx
            refine ⟨by simp, by simp, fun j a b => ?_⟩
            have : j = i := by simp at a b; omega
            rw [this]; exact hp
theorem rs_mem (p : Nat → Bool) : ∀ i, ∀ x ∈ rs p i, x.1 < x.2 ∧ x.2 ≤ i ∧ (∀ j, x.1 ≤ j → j < x.2 → p j = true) := fun i => (rs_key p i).1
theorem rs_last (p : Nat → Bool) (i : Nat) (h0 : 0 < i) (h : p (i - 1) = true) : ∃ X k, rs p i = X ++ [(k, i)] := (rs_key p i).2 h0 h
end Go.Proofs.YtlmmmibnnbceeaaDoor
