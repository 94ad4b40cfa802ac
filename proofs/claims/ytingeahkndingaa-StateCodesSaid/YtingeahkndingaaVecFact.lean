/-
  Plain: a vector that comes further (chapters 5, 23).
-/
import Derived.Test.YtingeahkndingaaVector2
namespace Go.Proofs.Ytingeahkndingaa
open Go.RowKit
set_option linter.unusedVariables false
theorem bump_fact (a b node boot : Int) (h : bumpE a b node boot = 0) : cmpZ (bumpA a b node boot) (bumpB a b node boot) a b = 1 ∧ cmpZ a b (bumpA a b node boot) (bumpB a b node boot) = 2 ∧ decide (boot * 16777216 < atZ (bumpA a b node boot) (bumpB a b node boot) node) = true ∧ 0 ≤ boot ∧ boot ≤ 16777216 := by
  have hok : bumpOk a b node boot = true := by
    unfold bumpE at h
    by_cases hk : bumpOk a b node boot = true
    · exact hk
    · rw [if_neg hk] at h; cases h
  have hn : bumpA a b node boot = (if node = 0 then bumpN a b node boot else a) ∧ bumpB a b node boot = (if node = 0 then b else bumpN a b node boot) := by
    unfold bumpA bumpB; rw [if_pos h, if_pos h]; exact ⟨rfl, rfl⟩
  unfold bumpOk at hok
  rw [Bool.and_eq_true, Bool.and_eq_true, decide_eq_true_iff] at hok
  obtain ⟨⟨hnode, hr⟩, hw⟩ := hok
  obtain ⟨t0, t1⟩ := of_decide_eq_true hw
  have hN : atZ a b node < bumpN a b node boot ∧ boot * 16777216 < bumpN a b node boot := by
    unfold bumpN mx; split <;> omega
  have key : coversB (bumpA a b node boot) (bumpB a b node boot) a b = true ∧ coversB a b (bumpA a b node boot) (bumpB a b node boot) = false ∧ atZ (bumpA a b node boot) (bumpB a b node boot) node = bumpN a b node boot := by
    rw [hn.1, hn.2]
    unfold atZ at hN ⊢
    unfold coversB
    rcases hnode with rfl | rfl
    · rw [if_pos rfl] at hN
      refine ⟨decide_eq_true ?_, decide_eq_false ?_, ?_⟩
      · rw [if_pos rfl, if_pos rfl]; omega
      · rw [if_pos rfl, if_pos rfl]; omega
      · rw [if_pos rfl, if_pos rfl]
    · rw [if_neg (by decide), if_pos rfl] at hN
      refine ⟨decide_eq_true ?_, decide_eq_false ?_, ?_⟩
      · rw [if_neg (by decide), if_neg (by decide)]; omega
      · rw [if_neg (by decide), if_neg (by decide)]; omega
      · rw [if_neg (by decide), if_pos rfl, if_neg (by decide)]
  refine ⟨?_, ?_, ?_, t0, t1⟩
  · unfold cmpZ; rw [key.1, key.2.1]; rfl
  · unfold cmpZ; rw [key.1, key.2.1]; rfl
  · rw [key.2.2]; exact decide_eq_true hN.2
/-- it may be, as the one that it came from -/
theorem bump_right (a b node boot : Int) (h : bumpE a b node boot = 0) : rightB (bumpA a b node boot) (bumpB a b node boot) = true := by
  have hok : bumpOk a b node boot = true := by
    unfold bumpE at h
    by_cases hk : bumpOk a b node boot = true
    · exact hk
    · rw [if_neg hk] at h; cases h
  have hle : ¬ 1125899906842624 < bumpN a b node boot := fun hl => by unfold bumpE at h; rw [if_pos hok, if_pos hl] at h; cases h
  have hn : bumpA a b node boot = (if node = 0 then bumpN a b node boot else a) ∧ bumpB a b node boot = (if node = 0 then b else bumpN a b node boot) := by
    unfold bumpA bumpB; rw [if_pos h, if_pos h]; exact ⟨rfl, rfl⟩
  unfold bumpOk at hok
  rw [Bool.and_eq_true, Bool.and_eq_true, decide_eq_true_iff] at hok
  obtain ⟨⟨hnode, hr⟩, hw⟩ := hok
  obtain ⟨t0, t1⟩ := of_decide_eq_true hw
  obtain ⟨r0, r1, r2, r3⟩ := of_decide_eq_true hr
  have hN : 0 ≤ bumpN a b node boot := by unfold bumpN mx; split <;> omega
  rw [hn.1, hn.2]
  refine decide_eq_true ?_
  split <;> omega
end Go.Proofs.Ytingeahkndingaa
