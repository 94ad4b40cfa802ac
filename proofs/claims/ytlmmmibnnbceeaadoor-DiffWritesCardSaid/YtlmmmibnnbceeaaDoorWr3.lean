/-
  The part that a word says (chapter 41): the plain law.
-/
import Derived.Test.YtlmmmibnnbceeaaDoorWr2
import Derived.Test.YtlmmmibnnbceeaaDoorCountRead2
import Derived.Lib.Strings
import Derived.Lib.Slices
namespace Go.Proofs.YtlmmmibnnbceeaaDoor
open Go.RowKit
set_option linter.unusedVariables false
set_option linter.unusedSimpArgs false
set_option maxRecDepth 20000

def cA (s : ByteArray) : ByteArray := ⟨(Lib.cut s.data.toList [45]).1.toArray⟩
def cB (s : ByteArray) : ByteArray := ⟨(Lib.cut s.data.toList [45]).2.1.toArray⟩
def cF (s : ByteArray) : Bool := (Lib.cut s.data.toList [45]).2.2
def hS (s : ByteArray) (c : UInt8) : Bool := Lib.hasSuffix s.data.toList [c]
def tS (s : ByteArray) (c : UInt8) : ByteArray := ⟨(Lib.trimSuffix s.data.toList [c]).toArray⟩
/-- two texts that may say a part's span -/
def spOk (f : Bool) (a b : ByteArray) : Bool := f && decide (readE a = 0) && decide (readE b = 0) && decide (0 ≤ readV a) && decide (0 ≤ readV b)
/-- what a word says, and whether it says a part -/
def ptR (s : ByteArray) : I3 × Bool :=
  if hS (cB s) 98 then ((readV (cA s), readV (tS (cB s) 98), 1), spOk (cF s) (cA s) (tS (cB s) 98))
  else if hS (cB s) 97 then ((readV (cA s), readV (tS (cB s) 97), 0), spOk (cF s) (cA s) (tS (cB s) 97))
  else ((0, 0, 0), false)
theorem readV_le {s : ByteArray} (h : readE s = 0) : readV s ≤ 9223372036854775807 := by
  unfold readV
  rw [if_pos h]
  by_cases hn : negB s = true
  · rw [if_pos hn]; omega
  · rw [if_neg hn]
    unfold readE at h
    by_cases hf : formB s = true
    · rw [if_pos hf, if_neg hn] at h
      by_cases hb : readN s ≤ 9223372036854775807
      · omega
      · rw [if_neg hb] at h
        exact absurd h (by decide)
    · rw [if_neg hf] at h
      exact absurd h (by decide)
theorem suf_back {r : ByteArray} {c : UInt8} (h : hS r c = true) : r.data.toList = (tS r c).data.toList ++ [c] := by
  unfold tS Lib.trimSuffix
  have h0 : Lib.hasSuffix r.data.toList [c] = true := h
  rw [la, if_pos h0]
  obtain ⟨t, ht⟩ := List.isSuffixOf_iff_suffix.1 (show [c].isSuffixOf r.data.toList = true from h0)
  rw [← ht]
  simp
theorem suf_of {r : ByteArray} {t : List UInt8} {c : UInt8} (h : r.data.toList = t ++ [c]) : hS r c = true ∧ (tS r c).data.toList = t := by
  have h0 : Lib.hasSuffix r.data.toList [c] = true := by
    show [c].isSuffixOf r.data.toList = true
    rw [List.isSuffixOf_iff_suffix, h]
    exact ⟨t, rfl⟩
  refine ⟨h0, ?_⟩
  unfold tS Lib.trimSuffix
  rw [la, if_pos h0, h]
  simp
theorem suf_not {r : ByteArray} {t : List UInt8} {c d : UInt8} (h : r.data.toList = t ++ [d]) (hcd : c ≠ d) : hS r c = false := by
  cases hq : hS r c with
  | false => rfl
  | true =>
    have := suf_back hq
    rw [h] at this
    have := List.append_inj_right' this rfl
    simp at this
    exact absurd this.symm hcd
theorem idx45 {x : List UInt8} (t : List UInt8) (h : (45 : UInt8) ∉ x) : Lib.index (x ++ 45 :: t) [45] = x.length := by
  induction x with
  | nil => simp [Lib.index, List.isPrefixOf]
  | cons b l ih =>
    simp only [List.mem_cons, not_or] at h
    have hb : ¬ ([45].isPrefixOf (b :: (l ++ 45 :: t)) = true) := by simp [List.isPrefixOf, h.1]
    rw [List.cons_append, Lib.index, if_neg hb, ih h.2, if_neg (by simp)]
    simp
theorem cut45 (A B : List UInt8) (h : (45 : UInt8) ∉ A) : Lib.cut (A ++ 45 :: B) [45] = (A, B, true) := by
  unfold Lib.cut
  rw [idx45 _ h, if_pos (by omega)]
  have e1 : ((A.length : Int)).toNat = A.length := by omega
  rw [e1, List.take_left]
  have e2 : List.drop (A.length + [45].length) (A ++ 45 :: B) = B := by
    have e3 : A ++ 45 :: B = (A ++ [45]) ++ B := by simp
    rw [e3]
    exact List.drop_left' (by simp)
  exact Prod.ext rfl (Prod.ext e2 rfl)
theorem index_split {l : List UInt8} : Lib.index l [45] = -1 ∨ ∃ A B, l = A ++ 45 :: B ∧ (45 : UInt8) ∉ A := by
  induction l with
  | nil => exact .inl rfl
  | cons b l ih =>
    by_cases hb : b = 45
    · exact .inr ⟨[], l, by rw [hb]; rfl, by simp⟩
    · rcases ih with h | ⟨A, B, rfl, hA⟩
      · left
        have hp : ¬ ([45].isPrefixOf (b :: l) = true) := by simp [List.isPrefixOf, Ne.symm hb]
        rw [Lib.index, if_neg hp, h]; rfl
      · exact .inr ⟨b :: A, B, rfl, by simp only [List.mem_cons, not_or]; exact ⟨fun e => hb e.symm, hA⟩⟩
theorem cut_back {s : ByteArray} (h : cF s = true) : s.data.toList = (cA s).data.toList ++ 45 :: (cB s).data.toList := by
  rcases index_split (l := s.data.toList) with hx | ⟨A, B, e, hA⟩
  · unfold cF Lib.cut at h
    rw [hx, if_neg (by omega)] at h
    cases h
  · unfold cA cB
    rw [la, la, e, cut45 A B hA]
theorem sp_parts {f : Bool} {a b : ByteArray} (h : spOk f a b = true) : f = true ∧ readE a = 0 ∧ readE b = 0 ∧ 0 ≤ readV a ∧ 0 ≤ readV b := by
  unfold spOk at h
  simp only [Bool.and_eq_true, decide_eq_true_eq] at h
  exact ⟨h.1.1.1.1, h.1.1.1.2, h.1.1.2, h.1.2, h.2⟩
theorem pt_ok {s : ByteArray} (h : (ptR s).2 = true) : okP (ptR s).1 ∧ s = wdS (ptR s).1 := by
  have key : ∀ (c : UInt8) (d : Int), hS (cB s) c = true → (letS d).data.toList = [c] → (d = 0 ∨ d = 1) → spOk (cF s) (cA s) (tS (cB s) c) = true → okP (readV (cA s), readV (tS (cB s) c), d) ∧ s = wdS (readV (cA s), readV (tS (cB s) c), d) := by
    intro c d h1 h2 h3 h4
    obtain ⟨g1, g2, g3, g4, g5⟩ := sp_parts h4
    refine ⟨⟨⟨g4, readV_le g2⟩, ⟨g5, readV_le g3⟩, h3⟩, ?_⟩
    apply dl_eq
    rw [wd_data, cut_back g1, suf_back h1]
    simp only
    rw [text_read _ g2, text_read _ g3, h2]
  unfold ptR at h ⊢
  by_cases h1 : hS (cB s) 98 = true
  · rw [if_pos h1] at h ⊢
    exact key 98 1 h1 rfl (.inr rfl) h
  · rw [if_neg h1] at h ⊢
    by_cases h2 : hS (cB s) 97 = true
    · rw [if_pos h2] at h ⊢
      exact key 97 0 h2 rfl (.inl rfl) h
    · rw [if_neg h2] at h
      cases h
theorem pt_word {y : I3} (hy : okP y) : ptR (wdS y) = (y, true) := by
  have hno : (45 : UInt8) ∉ (textS y.1).data.toList := by
    intro h
    have := (text_digs y.1 hy.1.1 hy.1.2).1 45 h
    have e : (45 : UInt8).toNat = 45 := rfl
    omega
  have hc : Lib.cut (wdS y).data.toList [45] = ((textS y.1).data.toList, (textS y.2.1).data.toList ++ (letS y.2.2).data.toList, true) := by
    rw [wd_data]
    exact cut45 _ _ hno
  have hA : cA (wdS y) = textS y.1 := by
    unfold cA
    rw [hc]
  have hB : (cB (wdS y)).data.toList = (textS y.2.1).data.toList ++ (letS y.2.2).data.toList := by
    unfold cB
    rw [hc, la]
  have hF : cF (wdS y) = true := by
    unfold cF
    rw [hc]
  obtain ⟨e1, e2⟩ := read_text y.1 (by have := hy.1; omega) hy.1.2
  obtain ⟨e3, e4⟩ := read_text y.2.1 (by have := hy.2.1; omega) hy.2.1.2
  have hsp : ∀ t, t = textS y.2.1 → spOk (cF (wdS y)) (cA (wdS y)) t = true := by
    rintro t rfl
    unfold spOk
    rw [hF, hA, e1, e2, e3, e4]
    have := hy.1.1
    have := hy.2.1.1
    simp [*]
  obtain ⟨y1, y2, y3⟩ := y
  simp only at *
  unfold ptR
  rcases hy.2.2 with h | h
  · simp only at h
    subst h
    have hB' : (cB (wdS (y1, y2, 0))).data.toList = (textS y2).data.toList ++ [97] := hB
    obtain ⟨s1, s2⟩ := suf_of hB'
    have s3 := suf_not (c := 98) hB' (by decide)
    have s4 : tS (cB (wdS (y1, y2, 0))) 97 = textS y2 := dl_eq s2
    rw [s3, s1, if_neg (by decide), if_pos rfl, hsp _ s4, hA, s4, e2, e4]
  · simp only at h
    subst h
    have hB' : (cB (wdS (y1, y2, 1))).data.toList = (textS y2).data.toList ++ [98] := hB
    obtain ⟨s1, s2⟩ := suf_of hB'
    have s4 : tS (cB (wdS (y1, y2, 1))) 98 = textS y2 := dl_eq s2
    rw [s1, if_pos rfl, hsp _ s4, hA, s4, e2, e4]
end Go.Proofs.YtlmmmibnnbceeaaDoor
