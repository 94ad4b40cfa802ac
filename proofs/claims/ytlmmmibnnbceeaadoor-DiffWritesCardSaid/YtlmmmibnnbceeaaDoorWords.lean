/-
  The words of a line (chapter 1): what they are, and the reference's walk.
-/
import Derived.Test.YtlmmmibnnbceeaaDoorStrs
import Derived.Test.YtlmmmibnnbceeaaDoorCountRead
namespace Go.Proofs.YtlmmmibnnbceeaaDoor
open Go.RowKit
set_option linter.unusedVariables false
set_option linter.unusedSimpArgs false

/-- where the last word begins, and the words ahead of it, behind i bytes -/
def wst (s : ByteArray) : Nat → Nat × List ByteArray
  | 0 => (0, [])
  | i + 1 => if gd s i = 32 then (i + 1, if (wst s i).1 < i then (wst s i).2 ++ [s.extract (wst s i).1 i] else (wst s i).2) else wst s i
def wordsL (s : ByteArray) : List ByteArray := if (wst s s.size).1 < s.size then (wst s s.size).2 ++ [s.extract (wst s s.size).1 s.size] else (wst s s.size).2
theorem wst_le (s : ByteArray) : ∀ i, (wst s i).1 ≤ i
  | 0 => Nat.le_refl _
  | i + 1 => by
    unfold wst
    split
    · exact Nat.le_refl _
    · exact Nat.le_succ_of_le (wst_le s i)
theorem wst_len (s : ByteArray) : ∀ i, (wst s i).2.length ≤ i
  | 0 => Nat.le_refl _
  | i + 1 => by
    have h := wst_len s i
    unfold wst
    split
    · show (if (wst s i).1 < i then (wst s i).2 ++ [s.extract (wst s i).1 i] else (wst s i).2).length ≤ i + 1
      split
      · simp; omega
      · omega
    · omega
set_option maxHeartbeats 3200000 in
theorem rwords_any (s : ByteArray) (w : World) (hs : s.size ≤ 549755813888) : Calls Tryd.prog 17 #[.string s] w fun e w' => (∃ v, e = .returned v ∧ Strs w' w.heap.size v (wordsL s)) ∧ Below w.heap.size w w' := by
  go_enter Tryd.func17, Tryd.ntmps17
  go_wp2
  go_loopw [3, 4, 5] (fun v at_ i wr => ∃ k p : Nat, ∃ l : List ByteArray, k ≤ s.size + 1 ∧ i = .int .i64 k ∧ at_ = .int .i64 p ∧ Hid (k ≤ s.size → wst s k = (p, l)) ∧ Hid (k = s.size + 1 → l = wordsL s) ∧ Hid (Strs wr w.heap.size v l) ∧ Hid (Below w.heap.size w wr)) (fun _ _ i _ => s.size + 1 - (intOf i).toNat)
  case atStart => exact ⟨0, 0, [], Nat.zero_le _, rfl, rfl, (fun _ => rfl), (fun h => by omega), Strs.nil _ _, Below.refl _ _⟩
  case round =>
    obtain ⟨k, p, l, hk, rfl, rfl, HW, HE, HS, HB⟩ := hrel
    by_cases hlt : (k : Int) ≤ (s.size : Int)
    · by_cases hend : k = s.size
      · subst hend
        have hw := HW.out (Nat.le_refl _)
        have hp := wst_le s s.size
        rw [hw] at hp
        by_cases hgt : (p : Int) < (s.size : Int)
        · have hp0 : (0 : Int) ≤ (p : Int) := by omega
          have HWL : Hid (wordsL s = l ++ [s.extract p s.size]) := by show _ = _; unfold wordsL; rw [hw]; exact if_pos (by show p < s.size; omega)
          clear hw
          have hll : Hid (l.length ≤ s.size) := by have := wst_len s s.size; rw [HW.out (Nat.le_refl _)] at this; exact this
          go_wp2_with (at_builtin; refine app_str rfl (.tmp 25) (.tmp 30) rfl _ w w.heap.size _ l (s.extract p s.size) rfl rfl HS.out (by have := hll.out; omega) HB.out.size HB.out ?_; intro v' w' hS2 hB2 _)
          exact ⟨⟨s.size + 1, s.size + 1, _, by omega, by go_num, by go_num, (fun h => by omega), (fun _ => HWL.out.symm), hS2, hB2⟩, by simp [intOf]⟩
        · have HWL : Hid (wordsL s = l) := by show _ = _; unfold wordsL; rw [hw]; exact if_neg (by show ¬ p < s.size; omega)
          clear hw
          go_wp2
          exact ⟨⟨s.size + 1, s.size + 1, l, by omega, by go_num, by go_num, (fun h => by omega), (fun _ => HWL.out.symm), HS.out, HB.out⟩, by simp [intOf]⟩
      · have hk1 : k < s.size := by omega
        have hk1' : (k : Int) < (s.size : Int) := by omega
        have hk0 : (0 : Int) ≤ (k : Int) := by omega
        have hgk := gd_eq hk1
        have hne : ((k : Int) == (s.size : Int)) = false := by rw [beq_eq_false_iff_ne]; omega
        have hw := HW.out (by omega)
        have hp : p ≤ k := by have := wst_le s k; rw [hw] at this; exact this
        have hll : Hid (l.length ≤ k) := by have := wst_len s k; rw [hw] at this; exact this
        have hstep : wst s (k + 1) = if gd s k = 32 then (k + 1, if p < k then l ++ [s.extract p k] else l) else (p, l) := by
          show (if gd s k = 32 then (k + 1, if (wst s k).1 < k then (wst s k).2 ++ [s.extract (wst s k).1 k] else (wst s k).2) else wst s k) = _
          rw [hw]
        by_cases hb : gd s k = 32
        · rw [if_pos hb] at hstep
          have hb' : ((gd s k : Int) == 32) = true := by rw [hb]; rfl
          by_cases hgt : (p : Int) < (k : Int)
          · rw [if_pos (by omega)] at hstep
            have HST := Lib.hid hstep
            have hp0 : (0 : Int) ≤ (p : Int) := by omega
            have hkk : (k : Int) ≤ (s.size : Int) := by omega
            clear hstep hw hb
            go_wp2_with (at_builtin; refine app_str rfl (.tmp 25) (.tmp 30) rfl _ w w.heap.size _ l (s.extract p k) rfl rfl HS.out (by have := hll.out; omega) HB.out.size HB.out ?_; intro v' w' hS2 hB2 _)
            exact ⟨⟨k + 1, k + 1, _, by omega, by go_num, by go_num, (fun _ => HST.out), (fun h => by omega), hS2, hB2⟩, by simp [intOf]; omega⟩
          · rw [if_neg (by omega)] at hstep
            have HST := Lib.hid hstep
            clear hstep hw hb
            go_wp2
            exact ⟨⟨k + 1, k + 1, l, by omega, by go_num, by go_num, (fun _ => HST.out), (fun h => by omega), HS.out, HB.out⟩, by simp [intOf]; omega⟩
        · rw [if_neg hb] at hstep
          have hb' : ((gd s k : Int) == 32) = false := by rw [beq_eq_false_iff_ne]; omega
          have HST := Lib.hid hstep
          clear hstep hw hb
          go_wp2
          exact ⟨⟨k + 1, p, l, by omega, by go_num, rfl, (fun _ => HST.out), (fun h => by omega), HS.out, HB.out⟩, by simp [intOf]; omega⟩
    · have hke : k = s.size + 1 := by omega
      have hl := Lib.hid (HE.out hke)
      subst hke
      go_wp2
      go_ret
      exact ⟨⟨_, rfl, hl.out ▸ HS.out⟩, HB.out⟩
end Go.Proofs.YtlmmmibnnbceeaaDoor
