/-
  Bytes of a kind, sealed (chapter 4): plain.
-/
import Derived.Test.YtemfdmbjlmiopaaBytes
import Derived.Test.YtemfdmbjlmiopaaFieldRd
import Derived.Test.YtemfdmbjlmiopaaCyc
namespace Go.Proofs.Ytemfdmbjlmiopaa
open Go.RowKit
set_option linter.unusedVariables false

def tailS (s : ByteArray) : ByteArray := le4 (crcOf s.data.toList)
theorem tailS_size (s : ByteArray) : (tailS s).size = 4 := by simp [tailS, le4, strOfNums_size]
/-- how long the body says it is -/
def lenAt (s : ByteArray) : Nat := 256 * gd s 1 + gd s 2
def sumB (s : ByteArray) : Bool := (s.extract (3 + lenAt s) (7 + lenAt s)).toList == (tailS (s.extract 0 (3 + lenAt s))).toList
def firE (s : ByteArray) : Int := if s.size < 7 then 1 else if 600 < lenAt s then 11 else if s.size < lenAt s + 7 then 1 else if sumB s = false then 5 else 0
def firK (s : ByteArray) : Int := if firE s = 0 then gd s 0 else 0
def firB (s : ByteArray) : ByteArray := if firE s = 0 then s.extract 3 (3 + lenAt s) else ⟨#[]⟩
def firR (s : ByteArray) : ByteArray := if firE s = 0 then s.extract (7 + lenAt s) s.size else ⟨#[]⟩
def sealE (s : ByteArray) : Int := if firE s = 0 then (if (firR s).size = 0 then 0 else 2) else firE s
def getK (s : ByteArray) : Int := if sealE s = 0 then firK s else 0
def getB (s : ByteArray) : ByteArray := if sealE s = 0 then firB s else ⟨#[]⟩
def headS (kind : Int) (body : ByteArray) : ByteArray := putS (putS ⟨#[]⟩ kind 1) body.size 2 ++ body
def putE (kind : Int) (body : ByteArray) : Int := if kind < 0 ∨ 255 < kind then 7 else if 600 < body.size then 11 else 0
def sealS (kind : Int) (body : ByteArray) : ByteArray := if putE kind body = 0 then headS kind body ++ tailS (headS kind body) else ⟨#[]⟩

theorem fir_bad {s : ByteArray} {x : Int} (h : firE s = x) (hx : x ≠ 0) : firK s = 0 ∧ firB s = ⟨#[]⟩ ∧ firR s = ⟨#[]⟩ ∧ firE s = x := by
  have h0 : firE s ≠ 0 := by rw [h]; exact hx
  unfold firK firB firR
  rw [if_neg h0, if_neg h0, if_neg h0]; exact ⟨rfl, rfl, rfl, h⟩
theorem fir_good {s : ByteArray} (h : firE s = 0) : firK s = gd s 0 ∧ firB s = s.extract 3 (3 + lenAt s) ∧ firR s = s.extract (7 + lenAt s) s.size ∧ firE s = 0 := by
  unfold firK firB firR
  rw [if_pos h, if_pos h, if_pos h]; exact ⟨rfl, rfl, rfl, h⟩
theorem three (s : ByteArray) (h : 3 ≤ s.size) : ∃ a b c t, s.data.toList = a :: b :: c :: t := by
  have hl := data_len s
  match hs : s.data.toList with
  | a :: b :: c :: t => exact ⟨a, b, c, t, rfl⟩
  | [] => rw [hs] at hl; simp at hl; omega
  | [a] => rw [hs] at hl; simp at hl; omega
  | [a, b] => rw [hs] at hl; simp at hl; omega
theorem gd_data (s : ByteArray) (k : Nat) : gd s k = (s.data.toList.getD k 0).toNat := by rw [gd_toList, ByteArray.toList_eq]
theorem sealnm1 (s : ByteArray) (h : 1 ≤ s.size) : nmOut s 0 1 = gd s 0 ∧ nmRest s 0 1 = s.extract 1 s.size ∧ nmErr s 0 1 = 0 := by
  have hw : widthB 1 = true := by decide
  have he : rdErr s 0 1 = 0 := by unfold rdErr; rw [if_pos rfl, if_neg (by omega), if_neg (by omega)]
  refine ⟨?_, ?_, ?_⟩
  · unfold nmOut rdOut
    rw [if_pos hw, if_pos he, show (1 : Int).toNat = 1 from rfl, ext_list, gd_data]
    cases hs : s.data.toList with
    | nil => have := data_len s; rw [hs] at this; simp at this; omega
    | cons a t => simp [nat256]
  · unfold nmRest rdRest; rw [if_pos hw, if_pos he]; rfl
  · unfold nmErr; rw [if_pos hw]; exact he
theorem nm2 (s : ByteArray) (h : 3 ≤ s.size) : nmOut (s.extract 1 s.size) 0 2 = lenAt s ∧ nmRest (s.extract 1 s.size) 0 2 = s.extract 3 s.size ∧ nmErr (s.extract 1 s.size) 0 2 = 0 := by
  have hw : widthB 2 = true := by decide
  have hz := ext_size s 1 s.size (Nat.le_refl _)
  have he : rdErr (s.extract 1 s.size) 0 2 = 0 := by unfold rdErr; rw [if_pos rfl, if_neg (by omega), if_neg (by omega)]
  refine ⟨?_, ?_, ?_⟩
  · unfold nmOut rdOut
    rw [if_pos hw, if_pos he, show (2 : Int).toNat = 2 from rfl, ext_ext _ _ _ _ _ (by omega), ext_list]
    unfold lenAt
    rw [gd_data, gd_data]
    obtain ⟨a, b, c, t, hs⟩ := three s h
    rw [hs]
    simp [nat256]; omega
  · unfold nmRest rdRest
    rw [if_pos hw, if_pos he, show (2 : Int).toNat = 2 from rfl, hz, ext_ext _ _ _ _ _ (by omega), show 1 + (s.size - 1) = s.size by omega]
  · unfold nmErr; rw [if_pos hw]; exact he
theorem lenAt_nat (s : ByteArray) : lenAt s < 65536 := by
  have := gd_lt s 1; have := gd_lt s 2; unfold lenAt; omega
/-- what is read behind the head: the body, the sum -/
theorem rdA (s : ByteArray) (n : Nat) (h : 3 + n ≤ s.size) : rdOut (s.extract 3 s.size) 0 n = s.extract 3 (3 + n) ∧ rdRest (s.extract 3 s.size) 0 n = s.extract (3 + n) s.size ∧ rdErr (s.extract 3 s.size) 0 n = 0 := by
  have hz := ext_size s 3 s.size (Nat.le_refl _)
  have he : rdErr (s.extract 3 s.size) 0 n = 0 := by unfold rdErr; rw [if_pos rfl, if_neg (by omega), if_neg (by omega)]
  refine ⟨?_, ?_, he⟩
  · unfold rdOut; rw [if_pos he, Int.toNat_natCast, ext_ext _ _ _ _ _ (by omega)]
  · unfold rdRest; rw [if_pos he, Int.toNat_natCast, hz, ext_ext _ _ _ _ _ (by omega), show 3 + (s.size - 3) = s.size by omega]
theorem rdB (s : ByteArray) (n : Nat) (h : 7 + n ≤ s.size) : rdOut (s.extract (3 + n) s.size) 0 4 = s.extract (3 + n) (7 + n) ∧ rdRest (s.extract (3 + n) s.size) 0 4 = s.extract (7 + n) s.size ∧ rdErr (s.extract (3 + n) s.size) 0 4 = 0 := by
  have hz := ext_size s (3 + n) s.size (Nat.le_refl _)
  have he : rdErr (s.extract (3 + n) s.size) 0 4 = 0 := by unfold rdErr; rw [if_pos rfl, if_neg (by omega), if_neg (by omega)]
  refine ⟨?_, ?_, he⟩
  · unfold rdOut; rw [if_pos he, show (4 : Int).toNat = 4 from rfl, ext_ext _ _ _ _ _ (by omega), show 3 + n + 0 = 3 + n by omega, show 3 + n + 4 = 7 + n by omega]
  · unfold rdRest; rw [if_pos he, show (4 : Int).toNat = 4 from rfl, hz, ext_ext _ _ _ _ _ (by omega), show 3 + n + 4 = 7 + n by omega, show 3 + n + (s.size - (3 + n)) = s.size by omega]
/-- too short for what it says -/
theorem rdC (s : ByteArray) (n : Nat) (h3 : 3 ≤ s.size) (h : s.size < 7 + n) : rdErr (rdRest (s.extract 3 s.size) 0 n) (rdErr (s.extract 3 s.size) 0 n) 4 = 1 := by
  have hz := ext_size s 3 s.size (Nat.le_refl _)
  by_cases hn : 3 + n ≤ s.size
  · obtain ⟨_, e2, e3⟩ := rdA s n hn
    have hz2 := ext_size s (3 + n) s.size (Nat.le_refl _)
    rw [e2, e3]
    unfold rdErr; rw [if_pos rfl, if_neg (by omega), if_pos (by omega)]
  · have e : rdErr (s.extract 3 s.size) 0 n = 1 := by unfold rdErr; rw [if_pos rfl, if_neg (by omega), if_pos (by omega)]
    rw [e]; unfold rdErr; rfl
theorem rdAll (s : ByteArray) : rdOut s 0 s.size = s := by
  have he : rdErr s 0 s.size = 0 := by unfold rdErr; rw [if_pos rfl, if_neg (by omega), if_neg (by omega)]
  unfold rdOut; rw [if_pos he, Int.toNat_natCast, ext_all]
end Go.Proofs.Ytemfdmbjlmiopaa
