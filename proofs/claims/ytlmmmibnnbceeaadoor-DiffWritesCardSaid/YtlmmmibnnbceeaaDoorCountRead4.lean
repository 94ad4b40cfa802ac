/-
  The number that a text says (chapter 1): the reference, joined.
-/
import Derived.Test.YtlmmmibnnbceeaaDoorCountRead3
namespace Go.Proofs.YtlmmmibnnbceeaaDoor
open Go.RowKit
set_option linter.unusedVariables false
set_option linter.unusedSimpArgs false
theorem rread_any (s : ByteArray) (w : World) (hs : s.size ≤ 140737488355328) : Calls Tryd.prog 33 #[.string s] w fun e w' => e = .returned (.tuple #[.int .i64 (readV s), .int .i64 (readE s)]) ∧ w = w' := by
  cases hneg : negB s
  · rcases Nat.eq_zero_or_pos s.size with h0 | hp
    · have hf : formB s = false := by
        cases h : formB s
        · rfl
        · have h1 := (formB_iff.1 h).1
          have h2 : cutS s = s := by unfold cutS; rw [hneg]; rfl
          rw [h2] at h1; omega
      obtain ⟨e1, e2⟩ := read_no hf
      rw [e1, e2]
      have he : s.toList.isEmpty = true := by rw [empty_size]; exact decide_eq_true h0
      have hz : (s.size : Int) = 0 := by omega
      clear e1 e2 hf hneg h0
      go_enter Tryd.func33, Tryd.ntmps33
      go_wp2
      exact bodyPost_ret (v := .tuple #[.int .i64 0, .int .i64 4]) (by simp [results, Tryd.results33, go_sem]) rfl ⟨rfl, rfl⟩
    · exact rread_pos s w hs hneg hp
  · exact rread_neg s w hs hneg (neg_iff.1 hneg).1
end Go.Proofs.YtlmmmibnnbceeaaDoor
