/-
  The words of a line (chapter 1): count.Words, over runes.
-/
import Derived.Test.YtkcnpahnhmcegaaWords
import Derived.Laws.RangeAny
import Derived.Lib.OthersKept
namespace Go.Proofs.Ytkcnpahnhmcegaa
open Go.RowKit
set_option linter.unusedVariables false
set_option linter.unusedSimpArgs false

theorem get_gd (s : ByteArray) (k : Nat) : (s.get! k).toNat = gd s k := by
  unfold gd
  show (s.data[k]!).toNat = _
  rw [Array.getD_eq_getD_getElem?, Array.getElem!_eq_getD]
  simp [Array.getD_eq_getD_getElem?]
  rfl
/-- within a rune that begins with a byte of 128 or more all bytes are such -/
theorem decode_skip (s : ByteArray) (pos : Nat) (h : pos < s.size) (ha : 128 ≤ gd s pos) : ∀ j, j < (Utf8.decode s pos).2 → pos + j < s.size ∧ 128 ≤ gd s (pos + j) := by
  have h0 : ∀ j, j < 1 → pos + j < s.size ∧ 128 ≤ gd s (pos + j) := fun j hj => by
    obtain rfl : j = 0 := by omega
    exact ⟨h, ha⟩
  have key : ∀ k, (decide (pos + k < s.size) && (s.get! (pos + k)).toNat / 64 == 2) = true → pos + k < s.size ∧ 128 ≤ gd s (pos + k) := fun k hk => by
    rw [Bool.and_eq_true, decide_eq_true_iff, beq_iff_eq, get_gd] at hk
    exact ⟨hk.1, by omega⟩
  have hn : ¬ (s.get! (pos + 0)).toNat < 128 := by rw [get_gd]; simpa using ha
  unfold Utf8.decode
  simp only [hn, if_false]
  split
  · rename_i h1
    rw [Bool.and_eq_true] at h1
    split
    · intro j hj
      rcases j with _ | _ | j
      · exact h0 0 (by omega)
      · exact key 1 h1.2
      · exact absurd hj (by show ¬ j + 2 < 2; omega)
    · exact h0
  · split
    · rename_i h1
      rw [Bool.and_eq_true, Bool.and_eq_true] at h1
      split
      · intro j hj
        rcases j with _ | _ | _ | j
        · exact h0 0 (by omega)
        · exact key 1 h1.1.2
        · exact key 2 h1.2
        · exact absurd hj (by show ¬ j + 3 < 3; omega)
      · exact h0
    · split
      · rename_i h1
        rw [Bool.and_eq_true, Bool.and_eq_true, Bool.and_eq_true] at h1
        split
        · intro j hj
          rcases j with _ | _ | _ | _ | j
          · exact h0 0 (by omega)
          · exact key 1 h1.1.1.2
          · exact key 2 h1.1.2
          · exact key 3 h1.2
          · exact absurd hj (by show ¬ j + 4 < 4; omega)
        · exact h0
      · exact h0
/-- bytes without a blank change nothing -/
theorem wst_skip (s : ByteArray) (pos : Nat) : ∀ d, (∀ j, j < d → gd s (pos + j) ≠ 32) → wst s (pos + d) = wst s pos
  | 0, _ => rfl
  | d + 1, h => by
    have e : wst s (pos + d + 1) = wst s (pos + d) := by
      conv => lhs; unfold wst
      rw [if_neg (h d (by omega))]
    exact e.trans (wst_skip s pos d (fun j hj => h j (by omega)))
end Go.Proofs.Ytkcnpahnhmcegaa
