/-
  Plain laws: texts of digits compared as numbers (chapter 1).
-/
import Derived.Test.YtlmmmibnnbceeaaDoorCountRead2
namespace Go.Proofs.YtlmmmibnnbceeaaDoor
open Go.RowKit
set_option linter.unusedVariables false

def valR : List UInt8 → Nat
  | [] => 0
  | c :: l => (c.toNat - 48) * 10 ^ l.length + valR l
def digL (l : List UInt8) : Prop := ∀ c ∈ l, 48 ≤ c.toNat ∧ c.toNat ≤ 57
theorem valR_lt : ∀ {l : List UInt8}, digL l → valR l < 10 ^ l.length
  | [], _ => by simp [valR]
  | c :: l, h => by
    have h1 := valR_lt (l := l) (fun x hx => h x (List.mem_cons_of_mem _ hx))
    have h2 := h c (List.mem_cons_self ..)
    show (c.toNat - 48) * 10 ^ l.length + valR l < 10 ^ (l.length + 1)
    have h3 : (c.toNat - 48) * 10 ^ l.length ≤ 9 * 10 ^ l.length := Nat.mul_le_mul_right _ (by omega)
    rw [Nat.pow_succ]; omega
theorem valR_snoc : ∀ (l : List UInt8) (c : UInt8), valR (l ++ [c]) = valR l * 10 + (c.toNat - 48)
  | [], c => by simp [valR]
  | x :: l, c => by
    show (x.toNat - 48) * 10 ^ (l ++ [c]).length + valR (l ++ [c]) = ((x.toNat - 48) * 10 ^ l.length + valR l) * 10 + (c.toNat - 48)
    have e : (l ++ [c]).length = l.length + 1 := by simp
    rw [valR_snoc l c, e, Nat.add_mul, Nat.mul_assoc, ← Nat.pow_succ]
    show _ = (x.toNat - 48) * 10 ^ (l.length + 1) + valR l * 10 + (c.toNat - 48)
    omega
theorem valN_take (d : ByteArray) : ∀ k, k ≤ d.size → valN d k = valR (d.data.toList.take k)
  | 0, _ => by simp [valN, valR]
  | k + 1, h => by
    have hk : k < d.data.toList.length := by rw [Array.length_toList]; exact h
    rw [List.take_succ_eq_append_getElem hk, valR_snoc, ← valN_take d k (by omega)]
    show valN d k * 10 + (gd d k - 48) = _
    congr 2
    unfold gd
    rw [Array.getD_eq_getD_getElem?, ← Array.getElem?_toList, List.getElem?_eq_getElem hk]; rfl
theorem valN_all (d : ByteArray) : valN d d.size = valR d.toList := by
  rw [valN_take d d.size (Nat.le_refl _), ByteArray.toList_eq, List.take_of_length_le (by rw [Array.length_toList]; exact Nat.le_refl _)]
theorem allD_dig {d : ByteArray} (h : allD d d.size) : digL d.toList := by
  intro c hc
  rw [ByteArray.toList_eq] at hc
  obtain ⟨j, hj, rfl⟩ := List.getElem_of_mem hc
  have := h j (by rw [Array.length_toList] at hj; exact hj)
  unfold gd at this
  rw [Array.getD_eq_getD_getElem?, ← Array.getElem?_toList, List.getElem?_eq_getElem hj] at this
  exact this
theorem less_iff : ∀ {a b : List UInt8}, digL a → digL b → a.length = b.length → (Op.bytesLess a b = true ↔ valR a < valR b)
  | [], [], _, _, _ => by simp [Op.bytesLess, valR]
  | x :: a, y :: b, ha, hb, hl => by
    have h1 := less_iff (a := a) (b := b) (fun z hz => ha z (List.mem_cons_of_mem _ hz)) (fun z hz => hb z (List.mem_cons_of_mem _ hz)) (by simpa using hl)
    have hx := ha x (List.mem_cons_self ..)
    have hy := hb y (List.mem_cons_self ..)
    have va := valR_lt (l := a) (fun z hz => ha z (List.mem_cons_of_mem _ hz))
    have vb := valR_lt (l := b) (fun z hz => hb z (List.mem_cons_of_mem _ hz))
    have hl' : a.length = b.length := by simpa using hl
    show _ ↔ (x.toNat - 48) * 10 ^ a.length + valR a < (y.toNat - 48) * 10 ^ b.length + valR b
    rw [hl'] at va ⊢
    have e : Op.bytesLess (x :: a) (y :: b) = (decide (x < y) || (x == y && Op.bytesLess a b)) := rfl
    rw [e, Bool.or_eq_true, decide_eq_true_iff, Bool.and_eq_true, beq_iff_eq, h1, UInt8.lt_iff_toNat_lt]
    rcases Nat.lt_trichotomy x.toNat y.toNat with h | h | h
    · have h3 : (x.toNat - 48 + 1) * 10 ^ b.length ≤ (y.toNat - 48) * 10 ^ b.length := Nat.mul_le_mul_right _ (by omega)
      rw [Nat.add_mul] at h3
      exact ⟨fun _ => by omega, fun _ => .inl h⟩
    · have hxy : x = y := UInt8.toNat_inj.1 h
      subst hxy
      exact ⟨fun h4 => by rcases h4 with h4 | h4 <;> omega, fun h4 => .inr ⟨rfl, by omega⟩⟩
    · have h3 : (y.toNat - 48 + 1) * 10 ^ b.length ≤ (x.toNat - 48) * 10 ^ b.length := Nat.mul_le_mul_right _ (by omega)
      rw [Nat.add_mul] at h3
      refine ⟨fun h4 => ?_, fun h4 => by omega⟩
      rcases h4 with h4 | h4
      · omega
      · rw [h4.1] at h; omega
  | [], _ :: _, _, _, h => by simp at h
  | _ :: _, [], _, _, h => by simp at h
theorem val_eq : ∀ {a b : List UInt8}, digL a → digL b → a.length = b.length → valR a = valR b → a = b
  | [], [], _, _, _, _ => rfl
  | x :: a, y :: b, ha, hb, hl, hv => by
    have hx := ha x (List.mem_cons_self ..)
    have hy := hb y (List.mem_cons_self ..)
    have va := valR_lt (l := a) (fun z hz => ha z (List.mem_cons_of_mem _ hz))
    have vb := valR_lt (l := b) (fun z hz => hb z (List.mem_cons_of_mem _ hz))
    have hl' : a.length = b.length := by simpa using hl
    have hv' : (x.toNat - 48) * 10 ^ a.length + valR a = (y.toNat - 48) * 10 ^ b.length + valR b := hv
    rw [hl'] at va hv'
    have hxy : x.toNat = y.toNat := by
      rcases Nat.lt_trichotomy x.toNat y.toNat with h | h | h
      · have h3 : (x.toNat - 48 + 1) * 10 ^ b.length ≤ (y.toNat - 48) * 10 ^ b.length := Nat.mul_le_mul_right _ (by omega)
        rw [Nat.add_mul] at h3; omega
      · exact h
      · have h3 : (y.toNat - 48 + 1) * 10 ^ b.length ≤ (x.toNat - 48) * 10 ^ b.length := Nat.mul_le_mul_right _ (by omega)
        rw [Nat.add_mul] at h3; omega
    obtain rfl : x = y := UInt8.toNat_inj.1 hxy
    rw [val_eq (a := a) (b := b) (fun z hz => ha z (List.mem_cons_of_mem _ hz)) (fun z hz => hb z (List.mem_cons_of_mem _ hz)) hl' (by omega)]
  | [], _ :: _, _, _, h, _ => by simp at h
  | _ :: _, [], _, _, h, _ => by simp at h
def mostP : List UInt8 := [57, 50, 50, 51, 51, 55, 50, 48, 51, 54, 56, 53, 52, 55, 55, 53, 56, 48, 55]
def mostM : List UInt8 := [57, 50, 50, 51, 51, 55, 50, 48, 51, 54, 56, 53, 52, 55, 55, 53, 56, 48, 56]
theorem mostP_v : valR mostP = 9223372036854775807 ∧ valR mostM = 9223372036854775808 := by decide +kernel
theorem mostP_d : digL mostP ∧ digL mostM := by unfold digL mostP mostM; decide
/-- what the reference asks of a text of digits: is it beyond M? -/
theorem beyond {d : ByteArray} {M : List UInt8} (hd : allD d d.size) (hM : digL M) (hl : M.length = 19) (hlead : 1 < d.size → gd d 0 ≠ 48) (hbig : valR M < 10 ^ 19) :
    (19 < d.size → valR M < valN d d.size) ∧ (d.size < 19 → 10 ^ 18 ≤ valR M → valN d d.size ≤ valR M) ∧
    (d.size = 19 → ((Op.bytesLess d.toList M = false ∧ (d.toList == M) = false) ↔ valR M < valN d d.size)) := by
  have hdl := allD_dig hd
  rw [valN_all]
  have hlen : d.toList.length = d.size := toList_len d
  refine ⟨fun h => ?_, fun h h18 => ?_, fun h => ?_⟩
  · cases hL : d.toList with
    | nil => rw [hL] at hlen; simp at hlen; omega
    | cons c l =>
      rw [hL] at hlen hdl
      have hc := hdl c (List.mem_cons_self ..)
      have hg : gd d 0 = c.toNat := by
        unfold gd
        rw [ByteArray.toList_eq] at hL
        rw [Array.getD_eq_getD_getElem?, ← Array.getElem?_toList, hL]; rfl
      have hne := hlead (by omega)
      rw [hg] at hne
      show _ < (c.toNat - 48) * 10 ^ l.length + valR l
      have h1 : 1 * 10 ^ 19 ≤ (c.toNat - 48) * 10 ^ l.length := Nat.mul_le_mul (by omega) (Nat.pow_le_pow_right (by omega) (by simp at hlen; omega))
      omega
  · have h1 := valR_lt hdl
    have h2 : 10 ^ d.toList.length ≤ 10 ^ 18 := Nat.pow_le_pow_right (by omega) (by omega)
    omega
  · have h1 := less_iff hdl hM (by omega)
    have h2 := val_eq hdl hM (by omega)
    constructor
    · intro h3
      have h4 : ¬ valR d.toList < valR M := fun h5 => by rw [h1.2 h5] at h3; cases h3.1
      have h6 : valR d.toList ≠ valR M := fun h5 => by rw [h2 h5] at h3; simp at h3
      omega
    · intro h3
      refine ⟨?_, ?_⟩
      · cases h4 : Op.bytesLess d.toList M
        · rfl
        · have := h1.1 h4; omega
      · rw [beq_eq_false_iff_ne]; intro h4; rw [h4] at h3; omega
end Go.Proofs.YtlmmmibnnbceeaaDoor
