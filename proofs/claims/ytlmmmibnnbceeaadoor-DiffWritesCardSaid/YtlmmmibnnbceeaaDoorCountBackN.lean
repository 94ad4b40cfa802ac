/-
  Plain laws of chapter 1: what is written is read.
-/
import Derived.Test.YtlmmmibnnbceeaaDoorCountCmp
namespace Go.Proofs.YtlmmmibnnbceeaaDoor
open Go.RowKit
set_option linter.unusedVariables false

/-! ### numbers in digits -/
theorem valR_ge {c : UInt8} {l : List UInt8} (hc : 49 ≤ c.toNat) : 10 ^ l.length ≤ valR (c :: l) := by
  show _ ≤ (c.toNat - 48) * 10 ^ l.length + valR l
  have : 1 * 10 ^ l.length ≤ (c.toNat - 48) * 10 ^ l.length := Nat.mul_le_mul_right _ (by omega)
  omega
/-- a number's digits with no zero ahead -/
def canL (l : List UInt8) : Prop := digL l ∧ l ≠ [] ∧ (1 < l.length → l.headD 0 ≠ 48)
theorem canL_len {a b : List UInt8} (ha : canL a) (hb : canL b) (hv : valR a = valR b) : a.length ≤ b.length := by
  obtain ⟨hda, hna, hha⟩ := ha
  obtain ⟨hdb, hnb, hhb⟩ := hb
  rcases Nat.lt_or_ge b.length a.length with h | h
  · cases a with
    | nil => exact absurd rfl hna
    | cons c l =>
      have hb0 : 0 < b.length := List.length_pos_iff.2 hnb
      simp only [List.length_cons] at h
      have h1 := hha (by simp only [List.length_cons]; omega)
      have h2 := hda c (List.mem_cons_self ..)
      have h3 : c.toNat ≠ 48 := fun e => h1 (UInt8.toNat_inj.1 e)
      have h4 := valR_ge (c := c) (l := l) (by omega)
      have h5 := valR_lt hdb
      have h6 : 10 ^ b.length ≤ 10 ^ l.length := Nat.pow_le_pow_right (by omega) (by omega)
      omega
  · exact h
theorem canL_eq {a b : List UInt8} (ha : canL a) (hb : canL b) (hv : valR a = valR b) : a = b :=
  val_eq ha.1 hb.1 (Nat.le_antisymm (canL_len ha hb hv) (canL_len hb ha hv.symm)) hv
theorem digit_toNat (n : Nat) (h : n < 10) : (UInt8.ofNat (48 + n)).toNat = 48 + n := by rw [UInt8.toNat_ofNat']; omega
theorem digF_can : ∀ (k n : Nat), n < 10 ^ (k + 1) → canL (digF (k + 1) n) ∧ valR (digF (k + 1) n) = n ∧ (0 < n → (digF (k + 1) n).headD 0 ≠ 48) := by
  intro k
  induction k with
  | zero =>
    intro n h
    simp at h
    rw [digF, if_pos h]
    have e := digit_toNat n h
    refine ⟨⟨?_, by simp, fun h => by simp at h⟩, ?_, fun hp he => ?_⟩
    · intro c hc; obtain rfl := List.mem_singleton.1 hc; omega
    · show ((UInt8.ofNat (48 + n)).toNat - 48) * 10 ^ 0 + 0 = n
      rw [e]; omega
    · have : (UInt8.ofNat (48 + n)).toNat = 48 := congrArg UInt8.toNat he
      omega
  | succ k ih =>
    intro n h
    rw [digF]
    by_cases h10 : n < 10
    · rw [if_pos h10]
      have e := digit_toNat n h10
      refine ⟨⟨?_, by simp, fun h => by simp at h⟩, ?_, fun hp he => ?_⟩
      · intro c hc; obtain rfl := List.mem_singleton.1 hc; omega
      · show ((UInt8.ofNat (48 + n)).toNat - 48) * 10 ^ 0 + 0 = n
        rw [e]; omega
      · have : (UInt8.ofNat (48 + n)).toNat = 48 := congrArg UInt8.toNat he
        omega
    · rw [if_neg h10]
      obtain ⟨⟨h1, h2, h3⟩, h4, h5⟩ := ih (n / 10) (by rw [Nat.pow_succ] at h; omega)
      have e := digit_toNat (n % 10) (by omega)
      have h6 := h5 (by omega)
      have h7 : (digF (k + 1) (n / 10) ++ [UInt8.ofNat (48 + n % 10)]).headD 0 = (digF (k + 1) (n / 10)).headD 0 := by
        cases hd : digF (k + 1) (n / 10) with
        | nil => exact absurd hd h2
        | cons c l => rfl
      refine ⟨⟨?_, by simp, fun _ => by rw [h7]; exact h6⟩, ?_, fun _ => by rw [h7]; exact h6⟩
      · intro c hc
        rw [List.mem_append] at hc
        rcases hc with hc | hc
        · exact h1 c hc
        · obtain rfl := List.mem_singleton.1 hc; omega
      · rw [valR_snoc, h4, e]; omega
theorem digs_can (n : Nat) (h : n < 10 ^ 20) : canL (digs n) ∧ valR (digs n) = n := ⟨(digF_can 19 n h).1, (digF_can 19 n h).2.1⟩
theorem neg_head (s : ByteArray) : negB s = true ↔ ∃ l, s.toList = 45 :: l := by
  unfold negB
  rw [Bool.and_eq_true, decide_eq_true_iff, beq_iff_eq]
  have e : (s.extract 0 1).toList = s.toList.take 1 := by
    rw [ByteArray.toList_eq, ByteArray.toList_eq, ByteArray.data_extract, Array.toList_extract]; simp [List.extract]
  rw [e]
  have hl := toList_len s
  cases hs : s.toList with
  | nil => rw [hs] at hl; simp at hl; simp
  | cons c l => rw [hs] at hl; simp at hl; simp; intro; omega
theorem cut_neg {s : ByteArray} {l : List UInt8} (h : s.toList = 45 :: l) : (cutS s).toList = l := by
  unfold cutS
  rw [if_pos ((neg_head s).2 ⟨l, h⟩)]
  have hl := toList_len s
  rw [ByteArray.toList_eq, ByteArray.data_extract, Array.toList_extract]
  rw [ByteArray.toList_eq] at h hl
  rw [h] at hl ⊢
  simp at hl
  simp [List.extract, ← hl]
theorem allD_can {d : ByteArray} (h : digL d.toList) : allD d d.size := by
  intro j hj
  rw [gd_toList]
  have hj' : j < d.toList.length := by rw [toList_len]; exact hj
  rw [List.getD_eq_getElem?_getD, List.getElem?_eq_getElem hj']
  exact h _ (List.getElem_mem hj')
theorem gd0_head (d : ByteArray) : gd d 0 = (d.toList.headD 0).toNat := by
  rw [gd_toList]; cases d.toList <;> rfl
/-- what has a number's form -/
theorem form_can {s : ByteArray} : formB s = true ↔ canL (cutS s).toList ∧ ¬ (negB s = true ∧ (cutS s).toList = [48]) := by
  rw [formB_iff]
  unfold formOk canL
  rw [beq_iff_eq, gd0_head]
  have hl := toList_len (cutS s)
  constructor
  · rintro ⟨h1, h2, h3, h4⟩
    exact ⟨⟨allD_dig h4, fun h => by rw [h] at hl; simp at hl; omega, fun hlt he => h2 ⟨by omega, by rw [he]; rfl⟩⟩, h3⟩
  · rintro ⟨⟨h1, h2, h3⟩, h4⟩
    have : 0 < (cutS s).toList.length := List.length_pos_iff.2 h2
    exact ⟨by omega, fun h => h3 (by omega) (UInt8.toNat_inj.1 h.2), h4, allD_can h1⟩
theorem readN_val (s : ByteArray) : readN s = valR (cutS s).toList := valN_all _
theorem canL_zero {l : List UInt8} (h : canL l) : valR l = 0 ↔ l = [48] := by
  constructor
  · intro hv
    exact canL_eq h ⟨by intro c hc; simp at hc; subst hc; exact ⟨by decide, by decide⟩, by simp, fun h => by simp at h⟩ hv
  · rintro rfl; rfl
/-- a number's digits say it -/
theorem read_text (n : Int) (h0 : -9223372036854775808 ≤ n) (h1 : n ≤ 9223372036854775807) : readE (textS n) = 0 ∧ readV (textS n) = n := by
  have hT : (textS n).toList = textZ n := ba_list _
  by_cases h : n < 0
  · have hl : (textS n).toList = 45 :: digs (-n).toNat := by rw [hT]; unfold textZ; exact if_pos h
    obtain ⟨hc, hv⟩ := digs_can (-n).toNat (by omega)
    have hcut := cut_neg hl
    have hneg := (neg_head _).2 ⟨_, hl⟩
    have hN : readN (textS n) = (-n).toNat := by rw [readN_val, hcut, hv]
    have hf : formB (textS n) = true := by
      rw [form_can, hcut]
      exact ⟨hc, fun h' => by have := (canL_zero hc).2 h'.2; omega⟩
    obtain ⟨e1, e2⟩ := read_neg hf hneg (by rw [hN]; omega)
    exact ⟨e1, by rw [e2, hN]; omega⟩
  · have hl : (textS n).toList = digs n.toNat := by rw [hT]; unfold textZ; exact if_neg h
    obtain ⟨hc, hv⟩ := digs_can n.toNat (by omega)
    have hneg : negB (textS n) = false := by
      cases hb : negB (textS n)
      · rfl
      · obtain ⟨l, hl'⟩ := (neg_head _).1 hb
        rw [hl] at hl'
        have := hc.1 45 (by rw [hl']; exact List.mem_cons_self ..)
        exact absurd this.1 (by decide)
    have hcut : (cutS (textS n)).toList = digs n.toNat := by unfold cutS; rw [hneg]; exact hl
    have hN : readN (textS n) = n.toNat := by rw [readN_val, hcut, hv]
    have hf : formB (textS n) = true := by
      rw [form_can, hcut, hneg]
      exact ⟨hc, fun h' => by cases h'.1⟩
    obtain ⟨e1, e2⟩ := read_pos hf hneg (by rw [hN]; omega)
    exact ⟨e1, by rw [e2, hN]; omega⟩
/-- what is read, and written, is the same text -/
theorem text_read (s : ByteArray) (h : readE s = 0) : textS (readV s) = s := by
  have hf : formB s = true := by
    cases hf : formB s
    · have := (read_no hf).1; omega
    · rfl
  obtain ⟨hc, hz⟩ := form_can.1 hf
  have hN := readN_val s
  cases hneg : negB s
  · have hcut : cutS s = s := by unfold cutS; rw [hneg]; rfl
    have hb : readN s ≤ 9223372036854775807 := by
      unfold readE at h; rw [if_pos hf, hneg] at h
      by_cases hb : readN s ≤ 9223372036854775807
      · exact hb
      · rw [if_neg (by simpa using hb)] at h; cases h
    obtain ⟨_, e2⟩ := read_pos hf hneg hb
    rw [e2]
    rw [hcut] at hc hN
    obtain ⟨hc', hv'⟩ := digs_can (readN s) (by omega)
    have : digs (readN s) = s.toList := canL_eq hc' hc (by rw [hv', hN])
    refine Eq.trans ?_ (ba_eq rfl).symm
    unfold textS textZ
    rw [if_neg (by omega), Int.toNat_natCast, this]
  · obtain ⟨l, hl⟩ := (neg_head s).1 hneg
    have hcut := cut_neg hl
    have hb : readN s ≤ 9223372036854775808 := by
      unfold readE at h; rw [if_pos hf, hneg] at h
      by_cases hb : readN s ≤ 9223372036854775808
      · exact hb
      · rw [if_neg (by simpa using hb)] at h; cases h
    obtain ⟨_, e2⟩ := read_neg hf hneg hb
    rw [e2]
    rw [hcut] at hc hN hz
    have hne : readN s ≠ 0 := fun h0 => hz ⟨hneg, (canL_zero hc).1 (by omega)⟩
    obtain ⟨hc', hv'⟩ := digs_can (readN s) (by omega)
    have : digs (readN s) = l := canL_eq hc' hc (by rw [hv', hN])
    refine Eq.trans ?_ (ba_eq hl).symm
    unfold textS textZ
    rw [if_pos (by omega), Int.neg_neg, Int.toNat_natCast, this]
theorem text_size (n : Int) : (textS n).size ≤ 21 := textZ_len n
end Go.Proofs.YtlmmmibnnbceeaaDoor
