/-
  Plain laws on sums by division (chapter 3): numbers and lists alone, no Go.
-/
import Derived.Laws.BitsAllLaws
import Derived.RowKit3
namespace Go.Proofs.YtaddbljdheafaaaDoor
open Go.RowKit

/-- one bit of the division -/
def bs (n : Nat) : Nat := (n / 2) ^^^ (if n % 2 = 1 then 3988292384 else 0)
def bsN : Nat → Nat → Nat
  | 0, n => n
  | k + 1, n => bsN k (bs n)
theorem bsN_succ (k n : Nat) : bsN (k + 1) n = bs (bsN k n) := by
  induction k generalizing n with
  | zero => rfl
  | succ k ih => show bsN (k + 1) (bs n) = _; rw [ih]; rfl
theorem bs_lt {n : Nat} (h : n < 4294967296) : bs n < 4294967296 := by
  unfold bs
  have := Nat.xor_lt_two_pow (x := n / 2) (y := if n % 2 = 1 then 3988292384 else 0) (n := 32) (by omega) (by split <;> omega)
  omega
theorem bsN_lt (k : Nat) {n : Nat} (h : n < 4294967296) : bsN k n < 4294967296 := by
  induction k generalizing n with
  | zero => exact h
  | succ k ih => exact ih (bs_lt h)
/-- one byte -/
def cb (n c : Nat) : Nat := bsN 8 (n ^^^ c)
theorem cb_lt {n c : Nat} (h : n < 4294967296) (hc : c < 256) : cb n c < 4294967296 := by
  unfold cb
  exact bsN_lt 8 (by have := Nat.xor_lt_two_pow (x := n) (y := c) (n := 32) (by omega) (by omega); omega)
def crcFrom (n : Nat) (l : List UInt8) : Nat := l.foldl (fun n c => cb n c.toNat) n
theorem crcFrom_lt (l : List UInt8) {n : Nat} (h : n < 4294967296) : crcFrom n l < 4294967296 := by
  induction l generalizing n with
  | nil => exact h
  | cons c l ih => exact ih (cb_lt h (by have := c.toNat_lt; omega))
theorem crcFrom_append (n : Nat) (l m : List UInt8) : crcFrom n (l ++ m) = crcFrom (crcFrom n l) m := by simp [crcFrom]
def crcOf (l : List UInt8) : Nat := crcFrom 4294967295 l ^^^ 4294967295

/-- the same step, as the Go text has it -/
theorem bs_go (n : Nat) (h : n < 4294967296) :
    bits .xor .u32 ((n : Int) / 2) (bits .and .u32 3988292384 ((-(bits .and .u32 (n : Int) 1)) % 4294967296)) = ((bs n : Nat) : Int) := by
  have e1 : bits .and .u32 (n : Int) 1 = ((n &&& 1 : Nat) : Int) := u32_and_nat n 1 h (by omega)
  rw [e1, Nat.and_one_is_mod]
  have e2 : ((n : Int) / 2) = ((n / 2 : Nat) : Int) := by omega
  unfold bs
  rcases Nat.mod_two_eq_zero_or_one n with h0 | h1
  · rw [h0, if_neg (by omega), e2]
    have e3 : bits .and .u32 3988292384 ((-((0 : Nat) : Int)) % 4294967296) = ((3988292384 &&& 0 : Nat) : Int) := u32_and_nat 3988292384 0 (by omega) (by omega)
    rw [e3]
    exact u32_xor_nat (n / 2) (3988292384 &&& 0) (by omega) (by simp)
  · rw [h1, if_pos rfl, e2]
    have e3 : bits .and .u32 3988292384 ((-((1 : Nat) : Int)) % 4294967296) = ((3988292384 &&& 4294967295 : Nat) : Int) := u32_and_nat 3988292384 4294967295 (by omega) (by omega)
    rw [e3]
    exact u32_xor_nat (n / 2) 3988292384 (by omega) (by omega)

/-! ### the division is linear, and loses nothing -/
theorem nxor_right {a b c : Nat} (h : a ^^^ c = b ^^^ c) : a = b := by
  have := congrArg (· ^^^ c) h
  simpa [Nat.xor_assoc] using this
theorem nxor_left {a b c : Nat} (h : c ^^^ a = c ^^^ b) : a = b := nxor_right (c := c) (by rw [Nat.xor_comm a c, Nat.xor_comm b c]; exact h)
theorem bs_shift (x y : Nat) : bs (x ^^^ 2 * y) = bs x ^^^ y := by
  unfold bs
  have e1 : (x ^^^ 2 * y) % 2 = x % 2 := by
    have := Nat.xor_mod_two_pow (a := x) (b := 2 * y) (n := 1)
    simpa using this
  have e2 : (x ^^^ 2 * y) / 2 = x / 2 ^^^ y := by rw [Nat.xor_div_two]; congr 1; omega
  rw [e1, e2, Nat.xor_assoc, Nat.xor_assoc, Nat.xor_comm y]
theorem bsN_shift (k : Nat) (x y : Nat) : bsN k (x ^^^ 2 ^ k * y) = bsN k x ^^^ y := by
  induction k generalizing x with
  | zero => simp [bsN]
  | succ k ih =>
    show bsN k (bs _) = bsN k (bs x) ^^^ y
    rw [show 2 ^ (k + 1) * y = 2 * (2 ^ k * y) by rw [Nat.pow_succ]; ac_rfl, bs_shift, ih]
theorem split8 (m : Nat) : m = m % 256 ^^^ 2 ^ 8 * (m / 256) := by
  apply Nat.eq_of_testBit_eq
  intro i
  rw [Nat.testBit_xor, show (256 : Nat) = 2 ^ 8 from rfl, Nat.testBit_mod_two_pow, Nat.testBit_two_pow_mul, Nat.testBit_div_two_pow]
  by_cases h : i < 8
  · simp [h, show ¬ 8 ≤ i by omega]
  · simp [h, show 8 ≤ i by omega]
theorem cb_word (n m : Nat) : bsN 8 (n ^^^ m) = cb n (m % 256) ^^^ (m / 256) := by
  conv => lhs; rw [split8 m, ← Nat.xor_assoc, bsN_shift]
  rfl
theorem bsN_add (j k n : Nat) : bsN (j + k) n = bsN k (bsN j n) := by
  induction j generalizing n with
  | zero => simp [bsN]
  | succ j ih => rw [show j + 1 + k = (j + k) + 1 by omega]; show bsN (j + k) (bs n) = bsN k (bsN j (bs n)); exact ih _
/-- four bytes at once -/
theorem cb_four (n m : Nat) (hm : m < 4294967296) :
    cb (cb (cb (cb n (m % 256)) (m / 256 % 256)) (m / 65536 % 256)) (m / 16777216 % 256) = bsN 32 (n ^^^ m) := by
  rw [show bsN 32 (n ^^^ m) = bsN 8 (bsN 8 (bsN 8 (bsN 8 (n ^^^ m)))) from by rw [← bsN_add, ← bsN_add, ← bsN_add]]
  rw [cb_word, cb_word, cb_word, cb_word]
  rw [show m / 256 / 256 = m / 65536 by omega, show m / 65536 / 256 = m / 16777216 by omega, show m / 16777216 / 256 = 0 by omega]
  simp
theorem bs_inj {x y : Nat} (hx : x < 4294967296) (hy : y < 4294967296) (h : bs x = bs y) : x = y := by
  have top : ∀ z : Nat, z < 4294967296 → (bs z).testBit 31 = decide (z % 2 = 1) := by
    intro z hz
    unfold bs
    rw [Nat.testBit_xor, Nat.testBit_div_two, Nat.testBit_lt_two_pow (show z < 2 ^ (31 + 1) by omega)]
    split
    · rename_i h1; rw [decide_eq_true h1]; decide +kernel
    · rename_i h1; rw [decide_eq_false h1]; simp
  have hp : (x % 2 = 1) = (y % 2 = 1) := by
    have := top x hx
    rw [h, top y hy] at this
    exact propext ⟨fun a => by simpa [a] using this, fun a => by simpa [a] using this.symm⟩
  unfold bs at h
  have e : x / 2 = y / 2 := by
    rw [show (if x % 2 = 1 then 3988292384 else 0) = (if y % 2 = 1 then 3988292384 else 0 : Nat) by simp only [hp]] at h
    exact nxor_right h
  have : x % 2 = y % 2 := by
    by_cases a : x % 2 = 1
    · have b : y % 2 = 1 := hp ▸ a
      omega
    · have b : ¬ y % 2 = 1 := hp ▸ a
      omega
  omega
theorem bsN_inj (k : Nat) {x y : Nat} (hx : x < 4294967296) (hy : y < 4294967296) (h : bsN k x = bsN k y) : x = y := by
  induction k generalizing x y with
  | zero => exact h
  | succ k ih => exact bs_inj hx hy (ih (bs_lt hx) (bs_lt hy) h)
theorem xor32 {n c : Nat} (hn : n < 4294967296) (hc : c < 4294967296) : n ^^^ c < 4294967296 := by
  have := Nat.xor_lt_two_pow (x := n) (y := c) (n := 32) (by omega) (by omega); omega
theorem crcFrom_inj (l : List UInt8) {x y : Nat} (hx : x < 4294967296) (hy : y < 4294967296) (h : crcFrom x l = crcFrom y l) : x = y := by
  induction l generalizing x y with
  | nil => exact h
  | cons c l ih =>
    have hc : c.toNat < 256 := c.toNat_lt
    have := ih (cb_lt hx hc) (cb_lt hy hc) h
    exact nxor_right (bsN_inj 8 (xor32 hx (by omega)) (xor32 hy (by omega)) this)
theorem four_inj {n : Nat} (hn : n < 4294967296) (a b c d a' b' c' d' : UInt8) (h : crcFrom n [a, b, c, d] = crcFrom n [a', b', c', d']) : [a, b, c, d] = [a', b', c', d'] := by
  have key : ∀ a b c d : UInt8, crcFrom n [a, b, c, d] = bsN 32 (n ^^^ (a.toNat + 256 * b.toNat + 65536 * c.toNat + 16777216 * d.toNat)) ∧ a.toNat + 256 * b.toNat + 65536 * c.toNat + 16777216 * d.toNat < 4294967296 := by
    intro a b c d
    have ha := a.toNat_lt
    have hb := b.toNat_lt
    have hc := c.toNat_lt
    have hd := d.toNat_lt
    have hm : a.toNat + 256 * b.toNat + 65536 * c.toNat + 16777216 * d.toNat < 4294967296 := by omega
    refine ⟨?_, hm⟩
    rw [← cb_four _ _ hm]
    rw [show (a.toNat + 256 * b.toNat + 65536 * c.toNat + 16777216 * d.toNat) % 256 = a.toNat by omega,
      show (a.toNat + 256 * b.toNat + 65536 * c.toNat + 16777216 * d.toNat) / 256 % 256 = b.toNat by omega,
      show (a.toNat + 256 * b.toNat + 65536 * c.toNat + 16777216 * d.toNat) / 65536 % 256 = c.toNat by omega,
      show (a.toNat + 256 * b.toNat + 65536 * c.toNat + 16777216 * d.toNat) / 16777216 % 256 = d.toNat by omega]
    rfl
  obtain ⟨e1, l1⟩ := key a b c d
  obtain ⟨e2, l2⟩ := key a' b' c' d'
  rw [e1, e2] at h
  have := nxor_left (bsN_inj 32 (xor32 hn l1) (xor32 hn l2) h)
  have ha := a.toNat_lt
  have hb := b.toNat_lt
  have hc := c.toNat_lt
  have hd := d.toNat_lt
  have ha' := a'.toNat_lt
  have hb' := b'.toNat_lt
  have hc' := c'.toNat_lt
  have hd' := d'.toNat_lt
  have q1 : a = a' := UInt8.toNat_inj.1 (by omega)
  have q2 : b = b' := UInt8.toNat_inj.1 (by omega)
  have q3 : c = c' := UInt8.toNat_inj.1 (by omega)
  have q4 : d = d' := UInt8.toNat_inj.1 (by omega)
  rw [q1, q2, q3, q4]
/-- what is turned within four in a row is seen -/
theorem near_inj {n : Nat} (hn : n < 4294967296) (l l' : List UInt8) (h4 : l.length ≤ 4) (hl : l'.length = l.length) (h : crcFrom n l = crcFrom n l') : l = l' := by
  have pad : ∀ z : List UInt8, crcFrom n (l ++ z) = crcFrom n (l' ++ z) := fun z => by rw [crcFrom_append, crcFrom_append, h]
  match l, l', hl, h4 with
  | [], [], _, _ => rfl
  | [a], [a'], _, _ => simpa using four_inj hn _ _ _ _ _ _ _ _ (pad [0, 0, 0])
  | [a, b], [a', b'], _, _ => simpa using four_inj hn _ _ _ _ _ _ _ _ (pad [0, 0])
  | [a, b, c], [a', b', c'], _, _ => simpa using four_inj hn _ _ _ _ _ _ _ _ (pad [0])
  | [a, b, c, d], [a', b', c', d'], _, _ => exact four_inj hn _ _ _ _ _ _ _ _ h
theorem crc_near (p l l' q : List UInt8) (h4 : l.length ≤ 4) (hl : l'.length = l.length) : crcOf (p ++ l ++ q) = crcOf (p ++ l' ++ q) ↔ l = l' := by
  constructor
  · intro h
    have := nxor_right h
    simp only [crcFrom_append] at this
    have hp := crcFrom_lt p (n := 4294967295) (by omega)
    exact near_inj hp _ _ h4 hl (crcFrom_inj q (crcFrom_lt _ hp) (crcFrom_lt _ hp) this)
  · rintro rfl; rfl
/-- the sum behind the bytes -/
theorem crc_tail (l t : List UInt8) (ht : t.map (·.toNat) = [crcOf l % 256, crcOf l / 256 % 256, crcOf l / 65536 % 256, crcOf l / 16777216 % 256]) : crcOf (l ++ t) = 558161692 := by
  have hp := crcFrom_lt l (n := 4294967295) (by omega)
  have hm : crcOf l < 4294967296 := xor32 hp (by omega)
  have h4 : t.length = 4 := by have := congrArg List.length ht; simpa using this
  match t, h4, ht with
  | [a, b, c, d], _, ht =>
    simp only [List.map_cons, List.map_nil, List.cons.injEq, and_true] at ht
    obtain ⟨h1, h2, h3, h4⟩ := ht
    unfold crcOf at *
    rw [crcFrom_append]
    show cb (cb (cb (cb _ a.toNat) b.toNat) c.toNat) d.toNat ^^^ 4294967295 = _
    rw [h1, h2, h3, h4, cb_four _ _ hm, ← Nat.xor_assoc, Nat.xor_self, Nat.zero_xor]
    decide +kernel
end Go.Proofs.YtaddbljdheafaaaDoor
