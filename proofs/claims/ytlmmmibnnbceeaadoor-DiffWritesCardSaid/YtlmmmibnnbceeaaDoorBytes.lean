/-
  Bytes of texts: one by one, cut out, joined.
-/
import Derived.Test.YtlmmmibnnbceeaaDoorMine
namespace Go.Proofs.YtlmmmibnnbceeaaDoor
open Go.RowKit
set_option linter.unusedVariables false
/-- the k-th byte -/
def gd (d : ByteArray) (k : Nat) : Nat := (d.data.getD k 0).toNat
theorem gd_eq {d : ByteArray} {k : Nat} (h : k < d.size) : (d[k]'h).toNat = gd d k := by
  unfold gd
  rw [Array.getD_eq_getD_getElem?, Array.getElem?_eq_getElem h]; rfl
theorem gd_lt (d : ByteArray) (k : Nat) : gd d k < 256 := UInt8.toNat_lt _
theorem gd_list (l : List UInt8) (k : Nat) : gd ⟨l.toArray⟩ k = (l.getD k 0).toNat := by
  unfold gd; simp
theorem ba_eq {s : ByteArray} {l : List UInt8} (h : s.toList = l) : s = ⟨l.toArray⟩ := by
  cases s with
  | mk d =>
    rw [ByteArray.toList_eq] at h
    rw [← h]
theorem ba_list (l : List UInt8) : (⟨l.toArray⟩ : ByteArray).toList = l := by rw [ByteArray.toList_eq]
theorem ba_size (l : List UInt8) : (⟨l.toArray⟩ : ByteArray).size = l.length := rfl
theorem gd_toList (s : ByteArray) (k : Nat) : gd s k = (s.toList.getD k 0).toNat := by
  conv => lhs; rw [ba_eq (s := s) rfl]
  exact gd_list _ _
theorem gd_extract (s : ByteArray) (a b j : Nat) (hb : b ≤ s.size) (h : j < b - a) : gd (s.extract a b) j = gd s (a + j) := by
  unfold gd
  rw [ByteArray.data_extract, Array.getD_eq_getD_getElem?, Array.getD_eq_getD_getElem?, Array.getElem?_extract]
  have hs : s.data.size = s.size := rfl
  rw [if_pos (by omega)]
theorem ba_ext {a b : ByteArray} (h : a.toList = b.toList) : a = b := by
  cases a; cases b
  rw [ByteArray.toList_eq, ByteArray.toList_eq] at h
  congr
  exact Array.toList_inj.1 h
theorem bse (x : ByteArray) : (x.toList == x.toList) = true := beq_self_eq_true _
theorem ext_list (s : ByteArray) (a b : Nat) : (s.extract a b).data.toList = (s.data.toList.drop a).take (b - a) := by
  rw [ByteArray.data_extract, Array.toList_extract, List.extract_eq_take_drop]
theorem ba_data {a b : ByteArray} (h : a.data.toList = b.data.toList) : a = b := by
  cases a; cases b
  congr
  exact Array.toList_inj.1 h
theorem data_len (s : ByteArray) : s.data.toList.length = s.size := rfl
theorem ext_ext (s : ByteArray) (a b c d : Nat) (h : a + d ≤ b) : (s.extract a b).extract c d = s.extract (a + c) (a + d) := by
  apply ba_data
  rw [ext_list, ext_list, ext_list, List.drop_take, List.take_take, List.drop_drop]
  congr 1
  omega
theorem ext_size (s : ByteArray) (a b : Nat) (h : b ≤ s.size) : (s.extract a b).size = b - a := by rw [ByteArray.size_extract]; omega
theorem ext_all (s : ByteArray) : s.extract 0 s.size = s := by
  apply ba_data
  rw [ext_list, List.drop_zero, List.take_of_length_le (by rw [data_len]; omega)]
theorem emp_eq {s : ByteArray} (h : s.size = 0) : s = ⟨#[]⟩ := by
  apply ba_data
  exact (List.length_eq_zero_iff.1 h).trans rfl
theorem app_list (a b : ByteArray) : (a ++ b).data.toList = a.data.toList ++ b.data.toList := by simp
end Go.Proofs.YtlmmmibnnbceeaaDoor
