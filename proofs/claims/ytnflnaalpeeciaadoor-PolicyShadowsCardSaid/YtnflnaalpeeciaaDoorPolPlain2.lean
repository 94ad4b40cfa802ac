/-
  Chapter 42 in plain words: rules in writing.
-/
import Derived.Test.YtnflnaalpeeciaaDoorCountBackN
import Derived.Test.YtnflnaalpeeciaaDoorPolPlain
import Derived.Lib.SplitLaws
import Derived.Lib.Join
namespace Go.Proofs.YtnflnaalpeeciaaDoor
open Go.RowKit
set_option linter.unusedVariables false
set_option linter.unusedSimpArgs false

/-! ### texts cut at blanks -/
theorem index_no {s : List UInt8} (h : (32 : UInt8) ∉ s) : Lib.index s [32] = -1 := by
  induction s with
  | nil => rfl
  | cons b l ih =>
    simp only [List.mem_cons, not_or] at h
    have hb : ¬ ([32].isPrefixOf (b :: l) = true) := by simp [List.isPrefixOf, h.1]
    rw [Lib.index, if_neg hb, ih h.2]; rfl
theorem index_yes {x : List UInt8} (t : List UInt8) (h : (32 : UInt8) ∉ x) : Lib.index (x ++ 32 :: t) [32] = x.length := by
  induction x with
  | nil => simp [Lib.index, List.isPrefixOf]
  | cons b l ih =>
    simp only [List.mem_cons, not_or] at h
    have hb : ¬ ([32].isPrefixOf (b :: (l ++ 32 :: t)) = true) := by simp [List.isPrefixOf, h.1]
    rw [List.cons_append, Lib.index, if_neg hb, ih h.2]
    rw [if_neg (by simp)]
    simp
theorem splitK_no (k : Nat) {s : List UInt8} (h : (32 : UInt8) ∉ s) : Lib.splitK [32] 0 k s = [s] := by
  cases k with
  | zero => rfl
  | succ k => rw [Lib.splitK, index_no h]; rfl
theorem splitK_yes (k : Nat) {x : List UInt8} (t : List UInt8) (h : (32 : UInt8) ∉ x) : Lib.splitK [32] 0 (k + 1) (x ++ 32 :: t) = x :: Lib.splitK [32] 0 k t := by
  rw [Lib.splitK, index_yes t h, if_neg (by simp)]
  congr 1
  · simp
  · congr 1
    simp
theorem count_blank (s : List UInt8) : Lib.count s [32] = s.count 32 := Lib.count_one 32 s
theorem cut_at {s : List UInt8} {n : Nat} (h : s.count (32 : UInt8) = n + 1) : ∃ x t, s = x ++ 32 :: t ∧ (32 : UInt8) ∉ x ∧ t.count (32 : UInt8) = n := by
  induction s with
  | nil => simp at h
  | cons b l ih =>
    by_cases hb : b = 32
    · subst hb
      rw [List.count_cons_self] at h
      exact ⟨[], l, rfl, by simp, by omega⟩
    · rw [List.count_cons_of_ne hb] at h
      obtain ⟨x, t, e, h1, h2⟩ := ih h
      refine ⟨b :: x, t, by rw [e]; rfl, ?_, h2⟩
      simp only [List.mem_cons, not_or]
      exact ⟨fun e => hb e.symm, h1⟩
theorem split3 {s : List UInt8} (h : s.count (32 : UInt8) = 2) : ∃ a b c, s = a ++ 32 :: (b ++ 32 :: c) ∧ (32 : UInt8) ∉ a ∧ (32 : UInt8) ∉ b ∧ (32 : UInt8) ∉ c := by
  obtain ⟨a, t, rfl, h1, h2⟩ := cut_at h
  obtain ⟨b, c, rfl, h3, h4⟩ := cut_at h2
  exact ⟨a, b, c, rfl, h1, h3, List.count_eq_zero.1 h4⟩
theorem splitK3 {a b c : List UInt8} (ha : (32 : UInt8) ∉ a) (hb : (32 : UInt8) ∉ b) (hc : (32 : UInt8) ∉ c) : Lib.splitK [32] 0 2 (a ++ 32 :: (b ++ 32 :: c)) = [a, b, c] := by
  rw [splitK_yes 1 _ ha, splitK_yes 0 _ hb, splitK_no 0 hc]
theorem parts3 {a b c a' b' c' : List UInt8} (ha : (32 : UInt8) ∉ a) (hb : (32 : UInt8) ∉ b) (hc : (32 : UInt8) ∉ c) (ha' : (32 : UInt8) ∉ a') (hb' : (32 : UInt8) ∉ b') (hc' : (32 : UInt8) ∉ c') (h : a ++ 32 :: (b ++ 32 :: c) = a' ++ 32 :: (b' ++ 32 :: c')) : a = a' ∧ b = b' ∧ c = c' := by
  have h1 := splitK3 ha hb hc
  rw [h, splitK3 ha' hb' hc'] at h1
  simp at h1
  exact ⟨h1.1.symm, h1.2.1.symm, h1.2.2.symm⟩
theorem dl_eq {a b : ByteArray} (h : a.data.toList = b.data.toList) : a = b := by
  cases a; cases b
  simp at h
  rw [h]
def spB : ByteArray := ⟨#[32]⟩
theorem countB_eq (s : ByteArray) : Lib.countB s spB = s.data.toList.count 32 := count_blank _
theorem splitB3 {s : ByteArray} {a b c : List UInt8} (h : s.data.toList = a ++ 32 :: (b ++ 32 :: c)) (ha : (32 : UInt8) ∉ a) (hb : (32 : UInt8) ∉ b) (hc : (32 : UInt8) ∉ c) :
    Lib.countB s spB = 2 ∧ Lib.splitB spB 0 2 s = [⟨a.toArray⟩, ⟨b.toArray⟩, ⟨c.toArray⟩] := by
  refine ⟨?_, ?_⟩
  · rw [countB_eq, h]
    simp [List.count_append, List.count_cons, List.count_eq_zero.2 ha, List.count_eq_zero.2 hb, List.count_eq_zero.2 hc]
  · have h1 := Lib.splitB_data spB 0 2 s
    rw [h, show spB.data.toList = [32] from rfl, splitK3 ha hb hc] at h1
    match hl : Lib.splitB spB 0 2 s, h1 with
    | [x, y, z], h1 =>
      simp at h1
      rw [show x = ⟨a.toArray⟩ from dl_eq (by simpa using h1.1), show y = ⟨b.toArray⟩ from dl_eq (by simpa using h1.2.1), show z = ⟨c.toArray⟩ from dl_eq (by simpa using h1.2.2)]
    | [], h1 => simp at h1
    | [x], h1 => simp at h1
    | [x, y], h1 => simp at h1
    | x :: y :: z :: u :: r, h1 => simp at h1

/-! ### rules in writing -/
def rlL (r : Rl) : List UInt8 := (nameR r.k).data.toList ++ 32 :: ((textS r.a).data.toList ++ 32 :: (textS r.b).data.toList)
def rlS (r : Rl) : ByteArray := ⟨(rlL r).toArray⟩
theorem rlS_data (r : Rl) : (rlS r).data.toList = rlL r := by simp [rlS]
theorem rlS_app (r : Rl) : (((nameR r.k ++ spB) ++ textS r.a) ++ spB) ++ textS r.b = rlS r := by
  apply dl_eq
  rw [rlS_data]
  simp [rlL, spB]
theorem rlS_join (r : Rl) : (⟨(Lib.join ([nameR r.k, textS r.a, textS r.b].map (·.data.toList)) spB.data.toList).toArray⟩ : ByteArray) = rlS r := by
  apply dl_eq
  rw [rlS_data]
  simp [rlL, spB, Lib.join, List.intercalate, List.intersperse]
theorem name_no (k : Int) : (32 : UInt8) ∉ (nameR k).data.toList := by
  unfold nameR
  repeat' split
  all_goals decide
theorem text_no (n : Int) (h0 : -9223372036854775808 ≤ n) (h1 : n ≤ 9223372036854775807) : (32 : UInt8) ∉ (textS n).data.toList := by
  have hd : ∀ m, m < 10 ^ 20 → ∀ c ∈ digs m, c.toNat ≠ 32 := fun m hm => by
    obtain ⟨⟨h1, h2, _⟩, _⟩ := digs_can m hm
    exact fun c hc => by have := h1 c hc; omega
  intro h
  have h : (32 : UInt8) ∈ textZ n := by simpa [textS] using h
  unfold textZ at h
  split at h
  · rcases List.mem_cons.1 h with h | h
    · cases h
    · exact hd _ (by omega) _ h rfl
  · exact hd _ (by omega) _ h rfl
def kindOf (a : ByteArray) : Int := if a = nameR 1 then 1 else if a = nameR 2 then 2 else if a = nameR 3 then 3 else if a = nameR 4 then 4 else if a = nameR 5 then 5 else 0
theorem name_data_inj : ∀ j k : Int, 1 ≤ j ∧ j ≤ 5 → 1 ≤ k ∧ k ≤ 5 → nameR j = nameR k → j = k := by
  intro j k hj hk h
  have hj' : j = 1 ∨ j = 2 ∨ j = 3 ∨ j = 4 ∨ j = 5 := by omega
  have hk' : k = 1 ∨ k = 2 ∨ k = 3 ∨ k = 4 ∨ k = 5 := by omega
  rcases hj' with rfl | rfl | rfl | rfl | rfl <;> rcases hk' with rfl | rfl | rfl | rfl | rfl <;> first | rfl | (exfalso; revert h; decide)
theorem kindOf_name {k : Int} (h : 1 ≤ k ∧ k ≤ 5) : kindOf (nameR k) = k := by
  have hk' : k = 1 ∨ k = 2 ∨ k = 3 ∨ k = 4 ∨ k = 5 := by omega
  rcases hk' with rfl | rfl | rfl | rfl | rfl <;> decide
theorem kindOf_is (a : ByteArray) : kindOf a = 0 ∨ (1 ≤ kindOf a ∧ kindOf a ≤ 5 ∧ nameR (kindOf a) = a) := by
  unfold kindOf
  repeat' split
  all_goals simp_all
/-- the rule that a line says -/
def PR3 (s : ByteArray) (r : Rl) (e : Int) : Prop :=
  (600 < s.size ∧ r = ⟨0, 0, 0⟩ ∧ e = 11) ∨ (s.size ≤ 600 ∧ chkR r = 0 ∧ rlS r = s ∧ e = 0) ∨ (s.size ≤ 600 ∧ (∀ r', chkR r' = 0 → rlS r' ≠ s) ∧ r = ⟨0, 0, 0⟩ ∧ e = 4)
theorem rl_in {r : Rl} (h : chkR r = 0) : (-9223372036854775808 ≤ r.a ∧ r.a ≤ 9223372036854775807) ∧ (-9223372036854775808 ≤ r.b ∧ r.b ≤ 9223372036854775807) := by
  have := chkR_ok.1 h
  omega
theorem rlS_inj {r r' : Rl} (h : chkR r = 0) (h' : chkR r' = 0) (e : rlS r = rlS r') : r = r' := by
  have e2 : rlL r = rlL r' := by rw [← rlS_data, ← rlS_data, e]
  obtain ⟨e3, e4, e5⟩ := parts3 (name_no _) (text_no _ (rl_in h).1.1 (rl_in h).1.2) (text_no _ (rl_in h).2.1 (rl_in h).2.2) (name_no _) (text_no _ (rl_in h').1.1 (rl_in h').1.2) (text_no _ (rl_in h').2.1 (rl_in h').2.2) e2
  have k1 := name_data_inj _ _ (chkR_ok.1 h).1 (chkR_ok.1 h').1 (dl_eq e3)
  have k2 : r.a = r'.a := by
    have h1 := read_text r.a (rl_in h).1.1 (rl_in h).1.2
    have h2 := read_text r'.a (rl_in h').1.1 (rl_in h').1.2
    rw [dl_eq e4] at h1
    omega
  have k3 : r.b = r'.b := by
    have h1 := read_text r.b (rl_in h).2.1 (rl_in h).2.2
    have h2 := read_text r'.b (rl_in h').2.1 (rl_in h').2.2
    rw [dl_eq e5] at h1
    omega
  cases r; cases r'
  simp only at k1 k2 k3
  rw [k1, k2, k3]
theorem PR3_fun {s : ByteArray} {r r' : Rl} {e e' : Int} (h : PR3 s r e) (h' : PR3 s r' e') : r = r' ∧ e = e' := by
  rcases h with ⟨h1, h2, h3⟩ | ⟨h1, h2, h3, h4⟩ | ⟨h1, h2, h3, h4⟩ <;> rcases h' with ⟨k1, k2, k3⟩ | ⟨k1, k2, k3, k4⟩ | ⟨k1, k2, k3, k4⟩
  · exact ⟨h2.trans k2.symm, h3.trans k3.symm⟩
  · omega
  · omega
  · omega
  · exact ⟨rlS_inj h2 k2 (h3.trans k3.symm), h4.trans k4.symm⟩
  · exact absurd h3 (k2 _ h2)
  · omega
  · exact absurd k3 (h2 _ k2)
  · exact ⟨h3.trans k3.symm, h4.trans k4.symm⟩
/-- a line of three words -/
theorem PR3_three {s : ByteArray} {a b c : List UInt8} (hs : s.size ≤ 600) (h : s.data.toList = a ++ 32 :: (b ++ 32 :: c)) (ha : (32 : UInt8) ∉ a) (hb : (32 : UInt8) ∉ b) (hc : (32 : UInt8) ∉ c) :
    (readE ⟨b.toArray⟩ = 0 ∧ readE ⟨c.toArray⟩ = 0 ∧ chkR ⟨kindOf ⟨a.toArray⟩, readV ⟨b.toArray⟩, readV ⟨c.toArray⟩⟩ = 0 → PR3 s ⟨kindOf ⟨a.toArray⟩, readV ⟨b.toArray⟩, readV ⟨c.toArray⟩⟩ 0) ∧
    (¬ (readE ⟨b.toArray⟩ = 0 ∧ readE ⟨c.toArray⟩ = 0 ∧ chkR ⟨kindOf ⟨a.toArray⟩, readV ⟨b.toArray⟩, readV ⟨c.toArray⟩⟩ = 0) → PR3 s ⟨0, 0, 0⟩ 4) := by
  constructor
  · rintro ⟨h1, h2, h3⟩
    refine .inr (.inl ⟨hs, h3, ?_, rfl⟩)
    apply dl_eq
    rw [rlS_data, h]
    unfold rlL
    simp only
    rw [text_read _ h1, text_read _ h2]
    rcases kindOf_is ⟨a.toArray⟩ with h4 | ⟨_, _, h4⟩
    · have := (chkR_ok.1 h3).1
      simp only at this
      omega
    · rw [h4]
  · intro hn
    refine .inr (.inr ⟨hs, fun r hr e => hn ?_, rfl, rfl⟩)
    have e2 : rlL r = a ++ 32 :: (b ++ 32 :: c) := by rw [← rlS_data, e, h]
    obtain ⟨e3, e4, e5⟩ := parts3 (name_no _) (text_no _ (rl_in hr).1.1 (rl_in hr).1.2) (text_no _ (rl_in hr).2.1 (rl_in hr).2.2) ha hb hc e2
    have f3 : (⟨a.toArray⟩ : ByteArray) = nameR r.k := dl_eq (by simpa using e3.symm)
    have f4 : (⟨b.toArray⟩ : ByteArray) = textS r.a := dl_eq (by simpa using e4.symm)
    have f5 : (⟨c.toArray⟩ : ByteArray) = textS r.b := dl_eq (by simpa using e5.symm)
    have h1 := read_text r.a (rl_in hr).1.1 (rl_in hr).1.2
    have h2 := read_text r.b (rl_in hr).2.1 (rl_in hr).2.2
    rw [f3, f4, f5, h1.1, h1.2, h2.1, h2.2, kindOf_name (chkR_ok.1 hr).1]
    exact ⟨rfl, rfl, hr⟩
/-- a line of other than three -/
theorem PR3_other {s : ByteArray} (hs : s.size ≤ 600) (h : Lib.countB s spB ≠ 2) : PR3 s ⟨0, 0, 0⟩ 4 := by
  refine .inr (.inr ⟨hs, fun r hr e => h ?_, rfl, rfl⟩)
  rw [← e]
  exact (splitB3 (rlS_data r) (name_no _) (text_no _ (rl_in hr).1.1 (rl_in hr).1.2) (text_no _ (rl_in hr).2.1 (rl_in hr).2.2)).1
theorem rlS_size (r : Rl) : (rlS r).size ≤ 51 := by
  have h1 := text_size r.a
  have h2 := text_size r.b
  have h3 : (nameR r.k).size ≤ 7 := by
    unfold nameR
    repeat' split
    all_goals decide
  have : (rlS r).size = (rlL r).length := by simp [rlS, ByteArray.size]
  rw [this]
  simp [rlL]
  omega
end Go.Proofs.YtnflnaalpeeciaaDoor
