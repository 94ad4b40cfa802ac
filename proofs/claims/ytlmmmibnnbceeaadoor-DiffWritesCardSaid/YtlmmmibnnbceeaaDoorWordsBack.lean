/-
  Plain laws of chapter 1: a line's words have no blank and are not empty.
-/
import Derived.Test.YtlmmmibnnbceeaaDoorWords
import Derived.Test.YtlmmmibnnbceeaaDoorCountBackN
namespace Go.Proofs.YtlmmmibnnbceeaaDoor
open Go.RowKit
set_option linter.unusedVariables false
/-- a word: not empty, no blank in it -/
def isWord (t : ByteArray) : Prop := 0 < t.size ∧ ∀ j, j < t.size → gd t j ≠ 32
theorem wst_words (s : ByteArray) : ∀ i, i ≤ s.size → (∀ j, (wst s i).1 ≤ j → j < i → gd s j ≠ 32) ∧ ∀ t ∈ (wst s i).2, isWord t ∧ t.size ≤ s.size
  | 0, _ => ⟨fun j _ h => by omega, fun t h => by simp [wst] at h⟩
  | i + 1, hi => by
    obtain ⟨h1, h2⟩ := wst_words s i (by omega)
    have hle := wst_le s i
    unfold wst
    split
    · refine ⟨fun j a b => ?_, fun t ht => ?_⟩
      · simp only at a; omega
      · simp only at ht
        split at ht
        · rename_i hb hlt
          rw [List.mem_append] at ht
          rcases ht with ht | ht
          · exact h2 t ht
          · simp at ht; subst ht
            have hsz : (s.extract (wst s i).1 i).size = i - (wst s i).1 := by rw [ByteArray.size_extract]; omega
            refine ⟨⟨by omega, fun j hj => ?_⟩, by omega⟩
            rw [gd_extract s _ _ _ (by omega) (by omega)]
            exact h1 _ (by omega) (by omega)
        · exact h2 t ht
    · rename_i hb
      refine ⟨fun j a b => ?_, h2⟩
      by_cases hj : j < i
      · exact h1 j a hj
      · obtain rfl : j = i := by omega
        exact hb
theorem words_are (s : ByteArray) : ∀ t ∈ wordsL s, isWord t ∧ t.size ≤ s.size := by
  intro t ht
  obtain ⟨h1, h2⟩ := wst_words s s.size (Nat.le_refl _)
  unfold wordsL at ht
  split at ht
  · rename_i hlt
    rw [List.mem_append] at ht
    rcases ht with ht | ht
    · exact h2 t ht
    · simp at ht; subst ht
      have hsz : (s.extract (wst s s.size).1 s.size).size = s.size - (wst s s.size).1 := by rw [ByteArray.size_extract]; omega
      refine ⟨⟨by omega, fun j hj => ?_⟩, by omega⟩
      rw [gd_extract s _ _ _ (Nat.le_refl _) (by omega)]
      exact h1 _ (by omega) (by omega)
  · exact h2 t ht
theorem wst_word {t : ByteArray} (h : isWord t) : ∀ i, i ≤ t.size → wst t i = (0, [])
  | 0, _ => rfl
  | i + 1, hi => by
    unfold wst
    rw [if_neg (h.2 i (by omega))]
    exact wst_word h i (by omega)
theorem word_words {t : ByteArray} (h : isWord t) : (wordsL t).length = 1 := by
  unfold wordsL
  rw [wst_word h t.size (Nat.le_refl _)]
  rw [if_pos h.1]
  rfl
theorem words_len (s : ByteArray) : (wordsL s).length ≤ s.size + 1 := by
  have h := wst_len s s.size
  unfold wordsL
  split
  · simp; omega
  · omega
end Go.Proofs.YtlmmmibnnbceeaaDoor
