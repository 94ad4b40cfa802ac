/-
  Plain laws on numbers of a fixed width (chapter 2): numbers and lists alone, no Go.
-/
import Derived.Laws.BytesArg
import Derived.RowKit3
namespace Go.Proofs.Ytemfdmbjlmiopaa
open Go.RowKit

/-- may a number have so many bytes? -/
def fitsB (n size : Int) : Bool := decide (1 ≤ size ∧ size ≤ 7 ∧ 0 ≤ n ∧ n < 256 ^ size.toNat)
/-- a number's bytes, the high one first -/
def be : Nat → Nat → List UInt8
  | 0, _ => []
  | k + 1, n => be k (n / 256) ++ [UInt8.ofNat (n % 256)]
theorem be_len (k n : Nat) : (be k n).length = k := by
  induction k generalizing n with
  | zero => rfl
  | succ k ih => simp [be, ih]
def putS (s : ByteArray) (n size : Int) : ByteArray := if fitsB n size = true then s ++ ⟨(be size.toNat n.toNat).toArray⟩ else s
/-- the number that bytes say, the high one first -/
def nat256 (l : List UInt8) : Nat := l.foldl (fun n c => n * 256 + c.toNat) 0
theorem nat256_snoc (l : List UInt8) (c : UInt8) : nat256 (l ++ [c]) = nat256 l * 256 + c.toNat := by simp [nat256]
theorem nat256_be (k n : Nat) (h : n < 256 ^ k) : nat256 (be k n) = n := by
  induction k generalizing n with
  | zero => simp [be, nat256]; simp at h; omega
  | succ k ih =>
    rw [be, nat256_snoc, ih (n / 256) (by rw [Nat.pow_succ] at h; omega), UInt8.toNat_ofNat']
    omega
theorem snocInd {α : Type} {p : List α → Prop} (h0 : p []) (hs : ∀ l c, p l → p (l ++ [c])) (l : List α) : p l := by
  have h : ∀ l : List α, p l.reverse := by
    intro l
    induction l with
    | nil => exact h0
    | cons c l ih => rw [List.reverse_cons]; exact hs _ _ ih
  simpa using h l.reverse
theorem nat256_lt (l : List UInt8) : nat256 l < 256 ^ l.length := by
  refine snocInd (p := fun l => nat256 l < 256 ^ l.length) (by simp [nat256]) (fun l c ih => ?_) l
  rw [nat256_snoc, List.length_append, List.length_singleton, Nat.pow_succ]
  have := c.toNat_lt
  omega
theorem fits_iff {n size : Int} : fitsB n size = true ↔ 1 ≤ size ∧ size ≤ 7 ∧ 0 ≤ n ∧ n < 256 ^ size.toNat := by unfold fitsB; exact decide_eq_true_iff
theorem size_cases {size : Int} (h1 : 1 ≤ size) (h7 : size ≤ 7) : size = 1 ∨ size = 2 ∨ size = 3 ∨ size = 4 ∨ size = 5 ∨ size = 6 ∨ size = 7 := by omega
theorem fits_not {n size : Int} (h : ¬ (1 ≤ size ∧ size ≤ 7 ∧ 0 ≤ n)) : fitsB n size = false := by
  unfold fitsB; rw [decide_eq_false_iff_not]; rintro ⟨a, b, c, _⟩; exact h ⟨a, b, c⟩
theorem fits_at (n : Int) (h0 : 0 ≤ n) (k : Nat) (h1 : 1 ≤ k) (h7 : k ≤ 7) (p : Int) (hp : (256 : Int) ^ k = p) : fitsB n (k : Int) = (n / p == 0) := by
  unfold fitsB
  rw [Bool.eq_iff_iff, decide_eq_true_iff, beq_iff_eq, Int.toNat_natCast, hp]
  have hpos : 0 < p := by rw [← hp]; exact Int.pow_pos (by omega)
  constructor
  · rintro ⟨_, _, _, h⟩; exact Int.ediv_eq_zero_of_lt h0 h
  · intro h
    refine ⟨by omega, by omega, h0, ?_⟩
    rcases Int.lt_or_le n p with g | g
    · exact g
    · have := Int.le_ediv_of_mul_le hpos (show 1 * p ≤ n by omega)
      omega
theorem be_1 (m : Nat) (h : (m : Int) < 256) : strOfNums [(m : Int)] = ⟨(be 1 m).toArray⟩ := by
  have e0 : UInt8.ofNat ((m : Int)).toNat = UInt8.ofNat (m % 256) := congrArg UInt8.ofNat (by omega)
  simp only [strOfNums, be, List.map_cons, List.map_nil, List.nil_append, e0]
theorem be_2 (m : Nat) (h : (m : Int) < 65536) : strOfNums [(m : Int) / 256, (m : Int) % 256] = ⟨(be 2 m).toArray⟩ := by
  have e0 : UInt8.ofNat ((m : Int) / 256).toNat = UInt8.ofNat (m / 256 % 256) := congrArg UInt8.ofNat (by omega)
  have e1 : UInt8.ofNat ((m : Int) % 256).toNat = UInt8.ofNat (m % 256) := congrArg UInt8.ofNat (by omega)
  simp only [strOfNums, be, List.map_cons, List.map_nil, List.nil_append, List.cons_append, e0, e1]
theorem be_3 (m : Nat) (h : (m : Int) < 16777216) : strOfNums [(m : Int) / 65536, (m : Int) / 256 % 256, (m : Int) % 256] = ⟨(be 3 m).toArray⟩ := by
  have e0 : UInt8.ofNat ((m : Int) / 65536).toNat = UInt8.ofNat (m / 256 / 256 % 256) := congrArg UInt8.ofNat (by omega)
  have e1 : UInt8.ofNat ((m : Int) / 256 % 256).toNat = UInt8.ofNat (m / 256 % 256) := congrArg UInt8.ofNat (by omega)
  have e2 : UInt8.ofNat ((m : Int) % 256).toNat = UInt8.ofNat (m % 256) := congrArg UInt8.ofNat (by omega)
  simp only [strOfNums, be, List.map_cons, List.map_nil, List.nil_append, List.cons_append, e0, e1, e2]
theorem be_4 (m : Nat) (h : (m : Int) < 4294967296) : strOfNums [(m : Int) / 16777216, (m : Int) / 65536 % 256, (m : Int) / 256 % 256, (m : Int) % 256] = ⟨(be 4 m).toArray⟩ := by
  have e0 : UInt8.ofNat ((m : Int) / 16777216).toNat = UInt8.ofNat (m / 256 / 256 / 256 % 256) := congrArg UInt8.ofNat (by omega)
  have e1 : UInt8.ofNat ((m : Int) / 65536 % 256).toNat = UInt8.ofNat (m / 256 / 256 % 256) := congrArg UInt8.ofNat (by omega)
  have e2 : UInt8.ofNat ((m : Int) / 256 % 256).toNat = UInt8.ofNat (m / 256 % 256) := congrArg UInt8.ofNat (by omega)
  have e3 : UInt8.ofNat ((m : Int) % 256).toNat = UInt8.ofNat (m % 256) := congrArg UInt8.ofNat (by omega)
  simp only [strOfNums, be, List.map_cons, List.map_nil, List.nil_append, List.cons_append, e0, e1, e2, e3]
theorem be_5 (m : Nat) (h : (m : Int) < 1099511627776) : strOfNums [(m : Int) / 4294967296, (m : Int) / 16777216 % 256, (m : Int) / 65536 % 256, (m : Int) / 256 % 256, (m : Int) % 256] = ⟨(be 5 m).toArray⟩ := by
  have e0 : UInt8.ofNat ((m : Int) / 4294967296).toNat = UInt8.ofNat (m / 256 / 256 / 256 / 256 % 256) := congrArg UInt8.ofNat (by omega)
  have e1 : UInt8.ofNat ((m : Int) / 16777216 % 256).toNat = UInt8.ofNat (m / 256 / 256 / 256 % 256) := congrArg UInt8.ofNat (by omega)
  have e2 : UInt8.ofNat ((m : Int) / 65536 % 256).toNat = UInt8.ofNat (m / 256 / 256 % 256) := congrArg UInt8.ofNat (by omega)
  have e3 : UInt8.ofNat ((m : Int) / 256 % 256).toNat = UInt8.ofNat (m / 256 % 256) := congrArg UInt8.ofNat (by omega)
  have e4 : UInt8.ofNat ((m : Int) % 256).toNat = UInt8.ofNat (m % 256) := congrArg UInt8.ofNat (by omega)
  simp only [strOfNums, be, List.map_cons, List.map_nil, List.nil_append, List.cons_append, e0, e1, e2, e3, e4]
theorem be_6 (m : Nat) (h : (m : Int) < 281474976710656) : strOfNums [(m : Int) / 1099511627776, (m : Int) / 4294967296 % 256, (m : Int) / 16777216 % 256, (m : Int) / 65536 % 256, (m : Int) / 256 % 256, (m : Int) % 256] = ⟨(be 6 m).toArray⟩ := by
  have e0 : UInt8.ofNat ((m : Int) / 1099511627776).toNat = UInt8.ofNat (m / 256 / 256 / 256 / 256 / 256 % 256) := congrArg UInt8.ofNat (by omega)
  have e1 : UInt8.ofNat ((m : Int) / 4294967296 % 256).toNat = UInt8.ofNat (m / 256 / 256 / 256 / 256 % 256) := congrArg UInt8.ofNat (by omega)
  have e2 : UInt8.ofNat ((m : Int) / 16777216 % 256).toNat = UInt8.ofNat (m / 256 / 256 / 256 % 256) := congrArg UInt8.ofNat (by omega)
  have e3 : UInt8.ofNat ((m : Int) / 65536 % 256).toNat = UInt8.ofNat (m / 256 / 256 % 256) := congrArg UInt8.ofNat (by omega)
  have e4 : UInt8.ofNat ((m : Int) / 256 % 256).toNat = UInt8.ofNat (m / 256 % 256) := congrArg UInt8.ofNat (by omega)
  have e5 : UInt8.ofNat ((m : Int) % 256).toNat = UInt8.ofNat (m % 256) := congrArg UInt8.ofNat (by omega)
  simp only [strOfNums, be, List.map_cons, List.map_nil, List.nil_append, List.cons_append, e0, e1, e2, e3, e4, e5]
theorem be_7 (m : Nat) (h : (m : Int) < 72057594037927936) : strOfNums [(m : Int) / 281474976710656, (m : Int) / 1099511627776 % 256, (m : Int) / 4294967296 % 256, (m : Int) / 16777216 % 256, (m : Int) / 65536 % 256, (m : Int) / 256 % 256, (m : Int) % 256] = ⟨(be 7 m).toArray⟩ := by
  have e0 : UInt8.ofNat ((m : Int) / 281474976710656).toNat = UInt8.ofNat (m / 256 / 256 / 256 / 256 / 256 / 256 % 256) := congrArg UInt8.ofNat (by omega)
  have e1 : UInt8.ofNat ((m : Int) / 1099511627776 % 256).toNat = UInt8.ofNat (m / 256 / 256 / 256 / 256 / 256 % 256) := congrArg UInt8.ofNat (by omega)
  have e2 : UInt8.ofNat ((m : Int) / 4294967296 % 256).toNat = UInt8.ofNat (m / 256 / 256 / 256 / 256 % 256) := congrArg UInt8.ofNat (by omega)
  have e3 : UInt8.ofNat ((m : Int) / 16777216 % 256).toNat = UInt8.ofNat (m / 256 / 256 / 256 % 256) := congrArg UInt8.ofNat (by omega)
  have e4 : UInt8.ofNat ((m : Int) / 65536 % 256).toNat = UInt8.ofNat (m / 256 / 256 % 256) := congrArg UInt8.ofNat (by omega)
  have e5 : UInt8.ofNat ((m : Int) / 256 % 256).toNat = UInt8.ofNat (m / 256 % 256) := congrArg UInt8.ofNat (by omega)
  have e6 : UInt8.ofNat ((m : Int) % 256).toNat = UInt8.ofNat (m % 256) := congrArg UInt8.ofNat (by omega)
  simp only [strOfNums, be, List.map_cons, List.map_nil, List.nil_append, List.cons_append, e0, e1, e2, e3, e4, e5, e6]

theorem be_front (k m : Nat) : be (k + 1) m = UInt8.ofNat (m / 256 ^ k % 256) :: be k m := by
  induction k generalizing m with
  | zero => simp [be]
  | succ k ih =>
    rw [be, ih (m / 256)]
    rw [show m / 256 / 256 ^ k = m / 256 ^ (k + 1) by rw [Nat.div_div_eq_div_mul, Nat.pow_succ, Nat.mul_comm]]
    rfl

/-! ### a reader of fields -/
/-- what a read of n bytes fails with, if it does -/
def rdErr (rest : ByteArray) (err n : Int) : Int := if err = 0 then (if n < 0 then 3 else if (rest.size : Int) < n then 1 else 0) else err
def rdOut (rest : ByteArray) (err n : Int) : ByteArray := if rdErr rest err n = 0 then rest.extract 0 n.toNat else ⟨#[]⟩
def rdRest (rest : ByteArray) (err n : Int) : ByteArray := if rdErr rest err n = 0 then rest.extract n.toNat rest.size else rest
def widthB (n : Int) : Bool := decide (1 ≤ n ∧ n ≤ 7)
def nmErr (rest : ByteArray) (err n : Int) : Int := if widthB n = true then rdErr rest err n else if err = 0 then 3 else err
def nmOut (rest : ByteArray) (err n : Int) : Nat := if widthB n = true then nat256 (rdOut rest err n).data.toList else 0
def nmRest (rest : ByteArray) (err n : Int) : ByteArray := if widthB n = true then rdRest rest err n else rest
def rdEnd (rest : ByteArray) (err : Int) : Int := if err = 0 ∧ rest.size ≠ 0 then 2 else err

theorem ext_left (p q : ByteArray) : (p ++ q).extract 0 p.size = p := by
  apply ByteArray.ext
  apply Array.ext'
  rw [ByteArray.data_extract, Array.toList_extract, ByteArray.data_append, Array.toList_append]
  simp [List.extract_eq_take_drop, ByteArray.size, -ByteArray.size_data]
theorem ext_right (p q : ByteArray) : (p ++ q).extract p.size (p ++ q).size = q := by
  apply ByteArray.ext
  apply Array.ext'
  rw [ByteArray.data_extract, Array.toList_extract, ByteArray.size_append, ByteArray.data_append, Array.toList_append]
  simp only [List.extract_eq_take_drop, ByteArray.size]
  rw [show p.data.size = p.data.toList.length from rfl, show q.data.size = q.data.toList.length from rfl, List.drop_left, List.take_of_length_le (by omega)]
theorem rd_front (p q : ByteArray) : rdErr (p ++ q) 0 p.size = 0 ∧ rdOut (p ++ q) 0 p.size = p ∧ rdRest (p ++ q) 0 p.size = q := by
  have e : rdErr (p ++ q) 0 p.size = 0 := by
    unfold rdErr; rw [if_pos rfl, if_neg (by omega), if_neg (by rw [ByteArray.size_append]; omega)]
  refine ⟨e, ?_, ?_⟩
  · unfold rdOut; rw [if_pos e, Int.toNat_natCast, ext_left]
  · unfold rdRest; rw [if_pos e, Int.toNat_natCast, ext_right]
theorem be_size (k a : Nat) : (ByteArray.mk (be k a).toArray).size = k := by simp [ByteArray.size, be_len]
theorem nm_front (k a : Nat) (q : ByteArray) (h1 : 1 ≤ k) (h7 : k ≤ 7) (ha : a < 256 ^ k) : nmOut (⟨(be k a).toArray⟩ ++ q) 0 k = a ∧ nmRest (⟨(be k a).toArray⟩ ++ q) 0 k = q ∧ nmErr (⟨(be k a).toArray⟩ ++ q) 0 k = 0 := by
  have hw : widthB (k : Int) = true := decide_eq_true (by omega)
  obtain ⟨e1, e2, e3⟩ := rd_front ⟨(be k a).toArray⟩ q
  rw [be_size] at e1 e2 e3
  refine ⟨?_, ?_, ?_⟩
  · unfold nmOut; rw [if_pos hw, e2]; exact nat256_be k a ha
  · unfold nmRest; rw [if_pos hw, e3]
  · unfold nmErr; rw [if_pos hw, e1]
theorem putS_fit (s : ByteArray) (a k : Nat) (h : fitsB (a : Int) (k : Int) = true) : putS s a k = s ++ ⟨(be k a).toArray⟩ := by
  unfold putS; rw [if_pos h]; simp
/-- three numbers and bytes, put one behind the other -/
theorem back_text (a b k : Nat) (s : ByteArray) (ha : fitsB (a : Int) (k : Int) = true) (hb : fitsB (b : Int) 7 = true) :
    putS (putS (putS ⟨#[]⟩ a k) b 7 ++ s) a k = ⟨(be k a).toArray⟩ ++ (⟨(be 7 b).toArray⟩ ++ (s ++ (⟨(be k a).toArray⟩ ++ ⟨#[]⟩))) := by
  rw [putS_fit _ a k ha, show (7 : Int) = ((7 : Nat) : Int) from rfl, putS_fit _ b 7 hb, putS_fit _ a k ha]
  apply ByteArray.ext
  apply Array.ext'
  simp
end Go.Proofs.Ytemfdmbjlmiopaa
