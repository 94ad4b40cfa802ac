/-
  Parts of two versions (chapter 41): what they are, and a row of them.
-/
import Derived.Test.YtlmmmibnnbceeaaMerge3
namespace Go.Proofs.Ytlmmmibnnbceeaa
open Go.RowKit Go.Shelf
set_option linter.unusedVariables false
set_option linter.unusedSimpArgs false
attribute [local go_sem] Oper.semAt_some

abbrev P3 := Nat × Nat × Nat
/-- one more part up to 'to' -/
def padd (s : List P3 × Nat) (to side : Nat) : List P3 × Nat := if s.2 < to then (s.1 ++ [(s.2, to, side)], to) else s
/-- what a run of the other's adds -/
def pstp (s : List P3 × Nat) (x : Nat × Nat) : List P3 × Nat := padd (padd s x.1 0) x.2 1
def pfold (l : List (Nat × Nat)) : List P3 × Nat := l.foldl pstp ([], 0)
theorem pfold_snoc (l : List (Nat × Nat)) (x : Nat × Nat) : pfold (l ++ [x]) = pstp (pfold l) x := by unfold pfold; rw [List.foldl_append]; rfl
def sdN (b : Bool) : Nat := if b = true then 1 else 0
/-- the parts, place by place -/
def pts (p : Nat → Bool) : Nat → List P3
  | 0 => []
  | i + 1 => if (pts p i).getLast?.map (fun x => x.2.2) = some (sdN (p i)) then (pts p i).dropLast ++ [(((pts p i).getLast?.getD (0, 0, 0)).1, i + 1, sdN (p i))] else pts p i ++ [(i, i + 1, sdN (p i))]
theorem pts_ext {p : Nat → Bool} {i : Nat} {X : List P3} {k j : Nat} (h : pts p i = X ++ [(k, j, sdN (p i))]) : pts p (i + 1) = X ++ [(k, i + 1, sdN (p i))] := by
  show (if _ then _ else _) = _
  rw [if_pos (by rw [h]; simp), h]; simp
theorem pts_new {p : Nat → Bool} {i : Nat} (h : pts p i = [] ∨ ∃ X k j s, pts p i = X ++ [(k, j, s)] ∧ s ≠ sdN (p i)) : pts p (i + 1) = pts p i ++ [(i, i + 1, sdN (p i))] := by
  show (if _ then _ else _) = _
  rw [if_neg]
  rcases h with h | ⟨X, k, j, s, h, hs⟩
  · rw [h]; simp
  · rw [h]; simp [hs]
theorem pts_last (p : Nat → Bool) : ∀ i, pts p (i + 1) = [] ∨ ∃ X k, pts p (i + 1) = X ++ [(k, i + 1, sdN (p i))] := fun i => by
  by_cases h : (pts p i).getLast?.map (fun x => x.2.2) = some (sdN (p i))
  · exact .inr ⟨_, _, if_pos h⟩
  · exact .inr ⟨_, _, if_neg h⟩
theorem pts_len (p : Nat → Bool) : ∀ i, (pts p i).length ≤ i
  | 0 => Nat.le_refl _
  | i + 1 => by
    have ih := pts_len p i
    by_cases h : (pts p i).getLast?.map (fun x => x.2.2) = some (sdN (p i))
    · have e : pts p (i + 1) = (pts p i).dropLast ++ [(((pts p i).getLast?.getD (0, 0, 0)).1, i + 1, sdN (p i))] := if_pos h
      rw [e, List.length_append, List.length_dropLast]; simp; omega
    · have e : pts p (i + 1) = pts p i ++ [(i, i + 1, sdN (p i))] := if_neg h
      rw [e, List.length_append]; simp; omega
/-- how the fold over the runs stands -/
structure PF (p : Nat → Bool) (n : Nat) : Prop where
  at_le : (pfold (rs p n)).2 ≤ n
  last : (pfold (rs p n)).1 = [] ∨ ∃ X k, (pfold (rs p n)).1 = X ++ [(k, (pfold (rs p n)).2, 1)]
  eq : (padd (pfold (rs p n)) n 0).1 = pts p n
  lst : ∀ X k j, rs p n = X ++ [(k, j)] → (pfold X).2 ≤ k
theorem padd_lt {s : List P3 × Nat} {to side : Nat} (h : s.2 < to) : padd s to side = (s.1 ++ [(s.2, to, side)], to) := if_pos h
theorem padd_ge {s : List P3 × Nat} {to side : Nat} (h : ¬ s.2 < to) : padd s to side = s := if_neg h
theorem padd_snd {s : List P3 × Nat} {to side : Nat} (h : s.2 ≤ to) : (padd s to side).2 = to := by
  by_cases h2 : s.2 < to
  · rw [padd_lt h2]
  · rw [padd_ge h2]; omega
theorem PF_all (p : Nat → Bool) : ∀ n, PF p n
  | 0 => ⟨Nat.le_refl _, .inl rfl, rfl, fun X k j h => by simp [rs] at h⟩
  | n + 1 => by
    have ih := PF_all p n
    cases hp : p n with
    | false =>
      have hr := rs_no hp
      have hs : sdN (p n) = 0 := by rw [hp]; rfl
      refine ⟨by rw [hr]; have := ih.at_le; omega, by rw [hr]; exact ih.last, ?_, by rw [hr]; exact ih.lst⟩
      rw [hr, padd_lt (by have := ih.at_le; omega)]
      have he := ih.eq
      by_cases hlt : (pfold (rs p n)).2 < n
      · rw [padd_lt hlt] at he
        rw [← hs] at he ⊢
        exact (pts_ext he.symm).symm
      · rw [padd_ge hlt] at he
        have hat : (pfold (rs p n)).2 = n := by have := ih.at_le; omega
        rw [pts_new, ← he, hs, hat]
        rcases ih.last with h | ⟨X, k, h⟩
        · exact .inl (he ▸ h)
        · exact .inr ⟨X, k, _, 1, he ▸ h, by rw [hs]; decide⟩
    | true =>
      have hs : sdN (p n) = 1 := by rw [hp]; rfl
      by_cases hq : 0 < n ∧ p (n - 1) = true
      · obtain ⟨X, k, hX⟩ := rs_last p n hq.1 hq.2
        have e : rs p (n + 1) = X ++ [(k, n + 1)] := by
          show (if p n = true then (if 0 < n ∧ p (n - 1) = true then _ else _) else _) = _
          rw [if_pos hp, if_pos hq, hX]; simp
        have hk := (rs_mem p n (k, n) (by rw [hX]; simp)).1
        simp only at hk
        have hXk := ih.lst X k n hX
        obtain ⟨F, hF⟩ : ∃ F, padd (pfold X) k 0 = F := ⟨_, rfl⟩
        have hF2 : F.2 = k := by rw [← hF]; exact padd_snd hXk
        have h1 : pfold (rs p n) = padd F n 1 := by rw [hX, pfold_snoc, ← hF]; rfl
        have h2 : pfold (rs p (n + 1)) = padd F (n + 1) 1 := by rw [e, pfold_snoc, ← hF]; rfl
        have he := ih.eq
        rw [h1, padd_lt (s := F) (to := n) (side := 1) (by omega), padd_ge (by simp)] at he
        simp only at he
        rw [← hs] at he
        have h3 := pts_ext he.symm
        rw [padd_lt (by omega)] at h2
        refine ⟨by rw [h2]; exact Nat.le_refl _, by rw [h2]; exact .inr ⟨_, _, rfl⟩, ?_, ?_⟩
        · rw [h2, padd_ge (by simp), h3, hs]
        · intro X' k' j' h'
          rw [e] at h'
          obtain ⟨rfl, h'⟩ := List.append_inj' h' rfl
          simp at h'
          rw [← h'.1]; exact hXk
      · have e : rs p (n + 1) = rs p n ++ [(n, n + 1)] := by
          show (if p n = true then (if 0 < n ∧ p (n - 1) = true then _ else _) else _) = _
          rw [if_pos hp, if_neg hq]
        have hle := ih.at_le
        have h3 : (padd (pfold (rs p n)) n 0).2 = n := padd_snd hle
        have h2 : pfold (rs p (n + 1)) = (pts p n ++ [(n, n + 1, 1)], n + 1) := by
          have : pfold (rs p (n + 1)) = padd (padd (pfold (rs p n)) n 0) (n + 1) 1 := by rw [e, pfold_snoc]; rfl
          rw [this, padd_lt (by omega), h3, ih.eq]
        refine ⟨by rw [h2]; exact Nat.le_refl _, by rw [h2]; exact .inr ⟨_, _, rfl⟩, ?_, ?_⟩
        · rw [h2, padd_ge (by simp), pts_new, hs]
          cases n with
          | zero => exact .inl rfl
          | succ m =>
            rcases pts_last p m with h | ⟨Y, k, h⟩
            · exact .inl h
            · refine .inr ⟨Y, k, _, _, h, ?_⟩
              have : p m = false := by
                cases hm : p m with
                | false => rfl
                | true => exact absurd ⟨by omega, by simpa using hm⟩ hq
              rw [this, hs]; decide
        · intro X' k' j' h'
          rw [e] at h'
          obtain ⟨rfl, h'⟩ := List.append_inj' h' rfl
          simp at h'
          rw [← h'.1]; exact hle
end Go.Proofs.Ytlmmmibnnbceeaa
