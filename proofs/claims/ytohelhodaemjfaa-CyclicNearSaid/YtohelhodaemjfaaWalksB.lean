/-
  Walks over the statements of chapter 3.
-/
import Derived.Test.YtohelhodaemjfaaWalksA
import Derived.Test.YtohelhodaemjfaaMine
namespace Go.Proofs.Ytohelhodaemjfaa
open Go.RowKit


theorem pw_drewN {B : Nat} {w W : World} (h : Below B w W) (n : Nat) : Below B w (W.drewN n) := ⟨h.os, h.tape, h.output, h.size, h.block⟩
theorem crc_check : crcOf [49, 50, 51, 52, 53, 54, 55, 56, 57] = 3421780262 := by decide +kernel
set_option maxHeartbeats 800000 in
theorem works_any (w : World) : Calls Try.prog 7 #[] w fun e w' => e = .returned (.bool true) ∧ Below w.heap.size w w' := by
  have k1 := crc_check
  have k2 : crcOf [] = 0 := by decide +kernel
  have m1 : (ByteArray.mk #[49, 50, 51, 52, 53, 54, 55, 56, 57]).size ≤ maxLen := by decide
  have m2 : (ByteArray.mk #[]).size ≤ maxLen := by decide
  have M1 := Lib.hid m1
  have M2 := Lib.hid m2
  clear m1 m2
  go_enter Try.func7, Try.ntmps7
  go_wp2_with fail
  refine (of_any _ _ M1.out).mono ?_
  rintro e w1 ⟨rfl, hb1⟩
  go_wp2_with fail
  refine (of_any _ _ M2.out).mono ?_
  rintro e w2 ⟨rfl, hb2⟩
  go_wp2_with fail
  go_ret
  exact ⟨rfl, bt hb1 hb2⟩
set_option maxHeartbeats 800000 in
theorem walk_CyclicOf (s : ByteArray) (hs : s.size ≤ 140737488351232) (w : World) : Calls Try.prog 5 #[.string s] w fun e w' => e = .returned (.bool true) ∧ Below w.heap.size w w' := by
  have hm : s.size ≤ maxLen := by unfold maxLen; omega
  by_cases hl : 3000 < (s.size : Int)
  · go_enter Try.func5, Try.ntmps5
    go_wp2_with (go_at_call 7; refine (works_any _).mono ?_; rintro e w1 ⟨rfl, hb1⟩)
    go_ret
    exact ⟨rfl, hb1⟩
  · go_enter Try.func5, Try.ntmps5
    go_wp2_with (first | (go_at_call 7; refine (works_any _).mono ?_; rintro e w1 ⟨rfl, hb1⟩) | (go_at_call 11; refine (of_any _ _ hm).mono ?_; rintro e w2 ⟨rfl, hb2⟩) | (go_at_call 12; refine (refof_any _ _ hm).mono ?_; rintro e w3 ⟨rfl, ⟨n3, rfl⟩⟩) | (go_at_call 13; refine (tail_any _ _ hm).mono ?_; rintro e w4 ⟨rfl, hb4⟩) | (go_at_call 14; refine (reftail_any _ _ hm).mono ?_; rintro e w5 ⟨rfl, hb5⟩))
    go_ret
    exact ⟨rfl, bt (bt (bt hb1 (pw_drewN hb2 n3)) hb4) hb5⟩
theorem le4_size (n : Nat) : (le4 n).size = 4 := by simp [le4, strOfNums_size]
theorem le4_list (n : Nat) : (le4 n).data.toList.map (·.toNat) = [n % 256, n / 256 % 256, n / 65536 % 256, n / 16777216 % 256] := by
  simp [le4, strOfNums_data]
  omega
theorem crc_tail' (s : ByteArray) : crcOf (s ++ le4 (crcOf s.data.toList)).data.toList = 558161692 := by
  have := crc_tail s.data.toList (le4 (crcOf s.data.toList)).data.toList (le4_list _)
  simpa using this
set_option maxHeartbeats 800000 in
theorem walk_CyclicTail (s : ByteArray) (hs : s.size ≤ 140737488351232) (w : World) : Calls Try.prog 6 #[.string s] w fun e w' => e = .returned (.bool true) ∧ Below w.heap.size w w' := by
  have hm : s.size ≤ maxLen := by unfold maxLen; omega
  by_cases hl : 3000 < (s.size : Int)
  · go_enter Try.func6, Try.ntmps6
    go_wp2_with (go_at_call 7; refine (works_any _).mono ?_; rintro e w1 ⟨rfl, hb1⟩)
    go_ret
    exact ⟨rfl, hb1⟩
  · have h4 : (le4 (crcOf s.data.toList)).size ≤ 4 := Nat.le_of_eq (le4_size _)
    have hA : (s ++ le4 (crcOf s.data.toList)).size ≤ maxLen := by rw [ByteArray.size_append]; unfold maxLen; omega
    have HA := Lib.hid hA
    have HC := Lib.hid (crc_tail' s)
    have HZ := Lib.hid (le4_size (crcOf s.data.toList))
    clear hA
    go_enter Try.func6, Try.ntmps6
    go_wp2_with (first | (go_at_call 7; refine (works_any _).mono ?_; rintro e w1 ⟨rfl, hb1⟩) | (go_at_call 13; refine (tail_any _ _ hm).mono ?_; rintro e w4 ⟨rfl, hb4⟩; first | have hc6 := bt hc5 hb4 | have hc4 := bt hb1 hb4) | (go_at_call 11; refine (of_any _ _ HA.out).mono ?_; rintro e w5 ⟨rfl, hb5⟩; have hc5 := bt hc4 hb5; rw [HC.out]))
    go_ret
    refine ⟨?_, hc6⟩
    show Ending.returned (.bool (decide (3000 < (s.size : Int)) || ((le4 (crcOf s.data.toList)).size : Int) == 4)) = _
    rw [HZ.out]
    simp
end Go.Proofs.Ytohelhodaemjfaa
