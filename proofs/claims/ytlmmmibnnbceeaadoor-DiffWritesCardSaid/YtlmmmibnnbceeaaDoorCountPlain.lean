/-
  Plain laws on numbers in digits (chapter 1): numbers and lists alone, no Go.
-/
import Derived.Laws.BytesArg
import Derived.RowKit3
namespace Go.Proofs.YtlmmmibnnbceeaaDoor
open Go.RowKit

/-- the last q digits of a number, the high one first -/
def lowd : Nat → Nat → List UInt8
  | 0, _ => []
  | q + 1, n => UInt8.ofNat (48 + n / 10 ^ q % 10) :: lowd q n
/-- a number's digits, 20 at most -/
def digF : Nat → Nat → List UInt8
  | 0, _ => []
  | k + 1, n => if n < 10 then [UInt8.ofNat (48 + n)] else digF k (n / 10) ++ [UInt8.ofNat (48 + n % 10)]
def digs (n : Nat) : List UInt8 := digF 20 n
/-- a number in digits -/
def textZ (n : Int) : List UInt8 := if n < 0 then 45 :: digs (-n).toNat else digs n.toNat
def textS (n : Int) : ByteArray := ⟨(textZ n).toArray⟩
theorem lowd_len (q n : Nat) : (lowd q n).length = q := by
  induction q with
  | zero => rfl
  | succ q ih => simp [lowd, ih]
theorem lowd_last (q n : Nat) : lowd (q + 1) n = lowd q (n / 10) ++ [UInt8.ofNat (48 + n % 10)] := by
  induction q with
  | zero => simp [lowd]
  | succ q ih =>
    show UInt8.ofNat (48 + n / 10 ^ (q + 1) % 10) :: lowd (q + 1) n = (UInt8.ofNat (48 + n / 10 / 10 ^ q % 10) :: lowd q (n / 10)) ++ [UInt8.ofNat (48 + n % 10)]
    rw [ih, List.cons_append, Nat.div_div_eq_div_mul, Nat.pow_succ, Nat.mul_comm]
theorem digF_low (q : Nat) : ∀ (k n : Nat), n < 10 ^ (q + 1) → (q = 0 ∨ 10 ^ q ≤ n) → q < k → digF k n = lowd (q + 1) n := by
  induction q with
  | zero =>
    intro k n h _ hk
    obtain ⟨k, rfl⟩ : ∃ m, k = m + 1 := ⟨k - 1, by omega⟩
    simp at h
    simp [digF, lowd, h, Nat.mod_eq_of_lt h]
  | succ q ih =>
    intro k n h hl hk
    obtain ⟨k, rfl⟩ : ∃ m, k = m + 1 := ⟨k - 1, by omega⟩
    have hl' : 10 ^ (q + 1) ≤ n := by rcases hl with hl | hl; omega; exact hl
    have h10 : ¬ n < 10 := by
      have : 10 ^ 1 ≤ 10 ^ (q + 1) := Nat.pow_le_pow_right (by omega) (by omega)
      omega
    rw [digF, if_neg h10, lowd_last, ih k (n / 10) (by rw [Nat.pow_succ] at h; omega) ?_ (by omega)]
    right
    rw [Nat.pow_succ] at hl'
    omega
/-- the digits that a loop has told when it ends -/
theorem digs_low (q n : Nat) (h : n / 10 ^ (q + 1) = 0) (hl : q = 0 ∨ n / 10 ^ q ≠ 0) (hq : q < 20) : digs n = lowd (q + 1) n := by
  have hp : 0 < 10 ^ (q + 1) := Nat.pos_of_ne_zero (by simp)
  have hp' : 0 < 10 ^ q := Nat.pos_of_ne_zero (by simp)
  refine digF_low q 20 n ?_ ?_ hq
  · rcases Nat.lt_or_ge n (10 ^ (q + 1)) with g | g
    · exact g
    · have := Nat.div_pos g hp; omega
  · rcases hl with hl | hl
    · exact .inl hl
    · right
      rcases Nat.lt_or_ge n (10 ^ q) with g | g
      · exact absurd (Nat.div_eq_of_lt g) hl
      · exact g
theorem digF_len (k n : Nat) : (digF k n).length ≤ k := by
  induction k generalizing n with
  | zero => simp [digF]
  | succ k ih =>
    unfold digF
    by_cases h : n < 10
    · rw [if_pos h]; simp
    · rw [if_neg h]; have := ih (n / 10); simp; omega
theorem digs_len (n : Nat) : (digs n).length ≤ 20 := digF_len 20 n
theorem textZ_len (n : Int) : (textZ n).length ≤ 21 := by
  unfold textZ
  by_cases h : n < 0
  · rw [if_pos h]; have := digs_len (-n).toNat; simp; omega
  · rw [if_neg h]; have := digs_len n.toNat; omega
/-- fuel beyond what is needed tells the same -/
theorem digF_more (k : Nat) : ∀ n, n < 10 ^ k → digF (k + 1) n = digF k n ∨ n < 10 := by
  intro n _
  by_cases h : n < 10
  · exact .inr h
  · left
    revert n
    induction k with
    | zero => intro n h1 h2; simp at h1; omega
    | succ k ih =>
      intro n h1 h2
      rw [digF, if_neg h2]
      conv => rhs; rw [digF, if_neg h2]
      by_cases h3 : n / 10 < 10
      · have : ∀ j, digF (j + 1) (n / 10) = [UInt8.ofNat (48 + n / 10)] := fun j => by rw [digF, if_pos h3]
        cases k with
        | zero => rw [Nat.pow_succ] at h1; simp at h1; omega
        | succ j => rw [this, this]
      · rw [ih (n / 10) (by rw [Nat.pow_succ] at h1; omega) h3]
end Go.Proofs.YtlmmmibnnbceeaaDoor
