/-
  Plain laws of chapter 23: what comes of two states.
-/
import Derived.Test.YtingeahkndingaaStateFact
namespace Go.Proofs.Ytingeahkndingaa
open Go.RowKit
set_option linter.unusedVariables false
theorem cmp_ways (a b c d : Int) : (cmpZ a b c d = 0 ∧ a = c ∧ b = d) ∨ (cmpZ a b c d = 1 ∧ c ≤ a ∧ d ≤ b ∧ ¬ (a = c ∧ b = d)) ∨ (cmpZ a b c d = 2 ∧ a ≤ c ∧ b ≤ d ∧ ¬ (a = c ∧ b = d)) ∨ (cmpZ a b c d = 3 ∧ ((c < a ∧ b < d) ∨ (a < c ∧ d < b))) := by
  unfold cmpZ coversB
  by_cases h1 : c ≤ a ∧ d ≤ b
  · rw [if_pos (decide_eq_true h1)]
    by_cases h2 : a ≤ c ∧ b ≤ d
    · rw [if_pos (decide_eq_true h2)]; exact .inl ⟨rfl, by omega, by omega⟩
    · rw [if_neg (by rw [decide_eq_true_iff]; exact h2)]; exact .inr (.inl ⟨rfl, by omega, by omega, by omega⟩)
  · rw [if_neg (by rw [decide_eq_true_iff]; exact h1)]
    by_cases h2 : a ≤ c ∧ b ≤ d
    · rw [if_pos (decide_eq_true h2)]; exact .inr (.inr (.inl ⟨rfl, by omega, by omega, by omega⟩))
    · rw [if_neg (by rw [decide_eq_true_iff]; exact h2)]; exact .inr (.inr (.inr ⟨rfl, by omega⟩))
theorem cmp_0 {a b c d : Int} (h1 : a = c) (h2 : b = d) : cmpZ a b c d = 0 := by
  rcases cmp_ways a b c d with h | h | h | h
  · exact h.1
  all_goals exact absurd h (by omega)
theorem cmp_1 {a b c d : Int} (h1 : c ≤ a) (h2 : d ≤ b) (h3 : ¬ (a = c ∧ b = d)) : cmpZ a b c d = 1 := by
  rcases cmp_ways a b c d with h | h | h | h
  · exact absurd ⟨h.2.1, h.2.2⟩ h3
  · exact h.1
  · exact absurd (⟨by omega, by omega⟩ : a = c ∧ b = d) h3
  · exact absurd h (by omega)
theorem cmp_2 {a b c d : Int} (h1 : a ≤ c) (h2 : b ≤ d) (h3 : ¬ (a = c ∧ b = d)) : cmpZ a b c d = 2 := by
  rcases cmp_ways a b c d with h | h | h | h
  · exact absurd ⟨h.2.1, h.2.2⟩ h3
  · exact absurd (⟨by omega, by omega⟩ : a = c ∧ b = d) h3
  · exact h.1
  · exact absurd h (by omega)
theorem cmp_3 {a b c d : Int} (h : (c < a ∧ b < d) ∨ (a < c ∧ d < b)) : cmpZ a b c d = 3 := by
  rcases cmp_ways a b c d with g | g | g | g
  · exact absurd g (by omega)
  · exact absurd g (by omega)
  · exact absurd g (by omega)
  · exact g.1
theorem mx_of (a b : Int) : mx a b = if a < b then b else a := rfl
theorem mx_ge {a b : Int} (h : b ≤ a) : mx a b = a := by unfold mx; rw [if_neg (by omega)]
theorem mx_le {a b : Int} (h : a ≤ b) : mx a b = b := by unfold mx; split <;> omega
theorem right_iff {a b : Int} : rightB a b = true ↔ 0 ≤ a ∧ a ≤ 1125899906842624 ∧ 0 ≤ b ∧ b ≤ 1125899906842624 := by unfold rightB; exact decide_eq_true_iff
/-- a state that may be: each side's version may be, and goes no further than the state -/
theorem side_ok (x : St) (h : chkE x = 0) : rightB (sideS x 0).p (sideS x 0).q = true ∧ rightB (sideS x 1).p (sideS x 1).q = true ∧ (sideS x 0).d.size = 128 ∧ (sideS x 1).d.size = 128 ∧ (sideS x 0).p = x.a ∧ (sideS x 0).q ≤ x.b ∧ (sideS x 1).q = x.b ∧ (sideS x 1).p ≤ x.a ∧ rightB x.a x.b = true := by
  unfold chkE at h
  split at h
  · rename_i hk
    have e : ∀ n, sideS x n = ⟨x.a, x.b, x.d⟩ := fun n => by unfold sideS; rw [if_pos hk]
    rw [e, e]
    unfold plainE at h
    split at h
    · cases h
    · rename_i hr
      split at h
      · cases h
      · rename_i hd
        have hr' : rightB x.a x.b = true := by cases g : rightB x.a x.b; exact absurd g hr; rfl
        exact ⟨hr', hr', Classical.not_not.1 hd, Classical.not_not.1 hd, rfl, Int.le_refl _, rfl, Int.le_refl _, hr'⟩
  · rename_i hk
    split at h
    · have e0 : sideS x 0 = x.x := by unfold sideS; rw [if_neg hk, if_pos rfl]
      have e1 : sideS x 1 = x.y := by unfold sideS; rw [if_neg hk, if_neg (by decide)]
      rw [e0, e1]
      unfold clashE at h
      split at h
      · rename_i hp
        split at h
        · rename_i hv
          unfold pairE at hp
          split at hp
          · cases hp
          · rename_i hr
            split at hp
            · cases hp
            · rename_i hd
              split at hp
              · cases hp
              · rename_i hc
                have r1 : rightB x.x.p x.x.q = true := by cases g : rightB x.x.p x.x.q; exact absurd (.inl g) hr; rfl
                have r2 : rightB x.y.p x.y.q = true := by cases g : rightB x.y.p x.y.q; exact absurd (.inr g) hr; rfl
                have d1 : x.x.d.size = 128 := Classical.not_not.1 fun g => hd (.inl g)
                have d2 : x.y.d.size = 128 := Classical.not_not.1 fun g => hd (.inr g)
                have c1 : cmpZ x.x.p x.x.q x.y.p x.y.q = 3 := Classical.not_not.1 fun g => hc (.inl g)
                have c2 : ¬ x.x.p < x.y.p := fun g => hc (.inr g)
                have c3 := cmp_ways x.x.p x.x.q x.y.p x.y.q
                have q1 := right_iff.1 r1
                have q2 := right_iff.1 r2
                obtain ⟨v1, v2, _⟩ := hv
                refine ⟨r1, r2, d1, d2, v1.symm, by omega, v2.symm, by omega, right_iff.2 ?_⟩
                rw [v1, v2]; omega
        · cases h
      · rename_i g; exact absurd h g
    · cases h
/-- what comes of two that stand beside each other may be -/
theorem meet_ok (x y : St) (hx : chkE x = 0) (hy : chkE y = 0) (h : y.a < x.a ∧ x.b < y.b) : chkE (meetS x y) = 0 ∧ meetS x y = ⟨1, x.a, y.b, ⟨#[]⟩, sideS x 0, sideS y 1⟩ := by
  obtain ⟨a1, _, a3, _, a5, a6, _, _, _⟩ := side_ok x hx
  obtain ⟨_, b2, _, b4, _, _, b7, b8, _⟩ := side_ok y hy
  have hm : meetS x y = ⟨1, x.a, y.b, ⟨#[]⟩, sideS x 0, sideS y 1⟩ := by unfold meetS; rw [mx_ge (by omega), mx_le (by omega)]
  refine ⟨?_, hm⟩
  rw [hm]
  have hp : pairE (sideS x 0) (sideS y 1) = 0 := by
    unfold pairE
    rw [if_neg (by rw [a1, b2]; decide), if_neg (by rintro (g | g); exact g a3; exact g b4), if_neg]
    rintro (g | g)
    · exact g (cmp_3 (by omega))
    · omega
  unfold chkE
  rw [if_neg (show ¬ (1 : Int) = 0 by decide), if_pos rfl]
  unfold clashE
  rw [if_pos hp, if_pos ⟨a5.symm, b7.symm, rfl⟩]
theorem join_is (x y : St) : joinS x y = if cmpZ x.a x.b y.a y.b = 3 then (if x.a < y.a then meetS y x else meetS x y) else if cmpZ x.a x.b y.a y.b = 2 then y else x := rfl
/-- the four ways in which two states stand -/
theorem join_ways (x y : St) (hx : chkE x = 0) (hy : chkE y = 0) :
    (cmpZ x.a x.b y.a y.b = 0 ∧ x.a = y.a ∧ x.b = y.b ∧ joinS x y = x ∧ joinS y x = y ∧ joinS x x = x) ∨
    (cmpZ x.a x.b y.a y.b = 1 ∧ ¬ (x.a = y.a ∧ x.b = y.b) ∧ joinS x y = x ∧ joinS y x = x ∧ joinS x x = x ∧ mx x.a y.a = x.a ∧ mx x.b y.b = x.b) ∨
    (cmpZ x.a x.b y.a y.b = 2 ∧ ¬ (x.a = y.a ∧ x.b = y.b) ∧ joinS x y = y ∧ joinS y x = y ∧ joinS y y = y ∧ mx x.a y.a = y.a ∧ mx x.b y.b = y.b) ∨
    (cmpZ x.a x.b y.a y.b = 3 ∧ ¬ (x.a = y.a ∧ x.b = y.b) ∧ ∃ j, joinS x y = j ∧ joinS y x = j ∧ joinS j x = j ∧ joinS x j = j ∧ joinS j y = j ∧ chkE j = 0 ∧ j.a = mx x.a y.a ∧ j.b = mx x.b y.b ∧ ¬ (x.a = j.a ∧ x.b = j.b) ∧
      ((y.a < x.a ∧ j.x = sideS x 0 ∧ j.y = sideS y 1) ∨ (x.a < y.a ∧ j.x = sideS y 0 ∧ j.y = sideS x 1))) := by
  have self : ∀ z : St, joinS z z = z := fun z => by rw [join_is, cmp_0 rfl rfl]; rfl
  rcases cmp_ways x.a x.b y.a y.b with ⟨h, h1, h2⟩ | ⟨h, h1, h2, h3⟩ | ⟨h, h1, h2, h3⟩ | ⟨h, h1⟩
  · refine .inl ⟨h, h1, h2, ?_, ?_, self x⟩
    · rw [join_is, h]; rfl
    · rw [join_is, cmp_0 h1.symm h2.symm]; rfl
  · refine .inr (.inl ⟨h, h3, ?_, ?_, self x, mx_ge h1, mx_ge h2⟩)
    · rw [join_is, h]; rfl
    · rw [join_is, cmp_2 h1 h2 (fun g => h3 ⟨g.1.symm, g.2.symm⟩)]; rfl
  · refine .inr (.inr (.inl ⟨h, h3, ?_, ?_, self y, mx_le h1, mx_le h2⟩))
    · rw [join_is, h]; rfl
    · rw [join_is, cmp_1 h1 h2 (fun g => h3 ⟨g.1.symm, g.2.symm⟩)]; rfl
  · refine .inr (.inr (.inr ⟨h, by omega, ?_⟩))
    rcases h1 with h1 | h1
    · obtain ⟨m1, m2⟩ := meet_ok x y hx hy h1
      refine ⟨meetS x y, ?_, ?_, ?_, ?_, ?_, m1, ?_, ?_, ?_, .inl ⟨h1.1, ?_, ?_⟩⟩
      · rw [join_is, h, if_pos rfl, if_neg (by omega)]
      · rw [join_is, cmp_3 (by omega), if_pos rfl, if_pos h1.1]
      · rw [join_is, m2, cmp_1 (by simp only; omega) (by simp only; omega) (by simp only; omega)]; rfl
      · rw [join_is, m2, cmp_2 (by simp only; omega) (by simp only; omega) (by simp only; omega)]; rfl
      · rw [join_is, m2, cmp_1 (by simp only; omega) (by simp only; omega) (by simp only; omega)]; rfl
      · rw [m2, mx_ge (by omega)]
      · rw [m2, mx_le (by omega)]
      · rw [m2]; simp only; omega
      · rw [m2]
      · rw [m2]
    · obtain ⟨m1, m2⟩ := meet_ok y x hy hx h1
      refine ⟨meetS y x, ?_, ?_, ?_, ?_, ?_, m1, ?_, ?_, ?_, .inr ⟨h1.1, ?_, ?_⟩⟩
      · rw [join_is, h, if_pos rfl, if_pos h1.1]
      · rw [join_is, cmp_3 (by omega), if_pos rfl, if_neg (by omega)]
      · rw [join_is, m2, cmp_1 (by simp only; omega) (by simp only; omega) (by simp only; omega)]; rfl
      · rw [join_is, m2, cmp_2 (by simp only; omega) (by simp only; omega) (by simp only; omega)]; rfl
      · rw [join_is, m2, cmp_1 (by simp only; omega) (by simp only; omega) (by simp only; omega)]; rfl
      · rw [m2, mx_le (by omega)]
      · rw [m2, mx_ge (by omega)]
      · rw [m2]; simp only; omega
      · rw [m2]
      · rw [m2]
end Go.Proofs.Ytingeahkndingaa
