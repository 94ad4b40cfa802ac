/-
  Walks over the reference of package field (chapter 2): Fits, Put.
-/
import Derived.Test.YtemfdmbjlmiopaaField
namespace Go.Proofs.Ytemfdmbjlmiopaa
open Go.RowKit
set_option linter.unusedVariables false

set_option maxHeartbeats 1600000 in
theorem rfits_any (n size : Int) (w : World) (hn : n ≤ 9223372036854775807) : Calls Try.prog 52 #[.int .i64 n, .int .i64 size] w fun e w' => e = .returned (.bool (fitsB n size)) ∧ w = w' := by
  by_cases h1 : size < 1
  · have HF := Lib.hid (fits_not (n := n) (size := size) (by omega))
    go_enter Try.func52, Try.ntmps52
    go_wp2
    go_ret
    exact ⟨congrArg (fun b => Ending.returned (.bool b)) HF.out.symm, rfl⟩
  by_cases h7 : 7 < size
  · have HF := Lib.hid (fits_not (n := n) (size := size) (by omega))
    go_enter Try.func52, Try.ntmps52
    go_wp2
    go_ret
    exact ⟨congrArg (fun b => Ending.returned (.bool b)) HF.out.symm, rfl⟩
  by_cases h0 : n < 0
  · have HF := Lib.hid (fits_not (n := n) (size := size) (by omega))
    go_enter Try.func52, Try.ntmps52
    go_wp2
    go_ret
    exact ⟨congrArg (fun b => Ending.returned (.bool b)) HF.out.symm, rfl⟩
  obtain ⟨m, rfl⟩ := Int.eq_ofNat_of_zero_le (show 0 ≤ n by omega)
  obtain ⟨k, rfl⟩ := Int.eq_ofNat_of_zero_le (show 0 ≤ size by omega)
  go_enter Try.func52, Try.ntmps52
  go_wp2
  go_loop [0, 5] (fun x i => ∃ q : Nat, q ≤ k ∧ i = .int .i64 q ∧ x = .int .i64 (m / 256 ^ q : Nat)) (fun _ i => k - (intOf i).toNat)
  case atStart => exact ⟨0, by omega, rfl, by simp⟩
  case round =>
    obtain ⟨q, hq, rfl, rfl⟩ := hrel
    have hd : m / 256 ^ q ≤ m := Nat.div_le_self _ _
    have HS : Hid (m / 256 ^ q / 256 = m / 256 ^ (q + 1)) := by show _ = _; rw [Nat.div_div_eq_div_mul, Nat.pow_succ]
    by_cases hlt : q < k
    · generalize m / 256 ^ q = z at *
      go_wp2
      go_round
      case rel => exact ⟨q + 1, by omega, by go_num, by rw [← HS.out]; go_num⟩
      case measure => simp [intOf]; omega
    · obtain rfl : q = k := by omega
      have hf := fits_at (m : Int) (by omega) q (by omega) (by omega) ((256 : Int) ^ q) rfl
      have hz : ((m : Int) / (256 : Int) ^ q) = ((m / 256 ^ q : Nat) : Int) := by simp
      rw [hz] at hf
      have HF := Lib.hid hf
      clear hf hz
      go_wp2
      go_ret
      exact ⟨congrArg (fun b => Ending.returned (.bool b)) HF.out.symm, rfl⟩

set_option maxHeartbeats 1600000 in
theorem rput_any (s : ByteArray) (n size : Int) (w : World) (hn : n ≤ 9223372036854775807) (hs : s.size ≤ 140737488355328) : Calls Try.prog 26 #[.string s, .int .i64 n, .int .i64 size] w fun e w' => e = .returned (.string (putS s n size)) ∧ Below w.heap.size w w' := by
  by_cases hfit : fitsB n size = true
  · obtain ⟨h1, h7, h0, hlt⟩ := fits_iff.1 hfit
    obtain ⟨m, rfl⟩ := Int.eq_ofNat_of_zero_le h0
    obtain ⟨k, rfl⟩ := Int.eq_ofNat_of_zero_le (show 0 ≤ size by omega)
    clear hlt
    have hcv : ∀ (W : World) (a0 : Int), (convert 83 9 (.slice (some ⟨W.heap.size, 0, none⟩) 1 1)).run Try.prog (W.alloc (.cells #[.int .u8 a0] 5)) = .ok (.string (strOfNums [a0])) (W.alloc (.cells #[.int .u8 a0] 5)) := fun W a0 => conv_block W 5 [a0] 1 rfl
    have hss := strOfNums_size
    go_enter Try.func26, Try.ntmps26
    go_wp2_with (go_at_call 52; (with_reducible refine (rfits_any _ _ _ hn).mono ?_); rintro e w' ⟨rfl, rfl⟩)
    go_loopw [1, 7, 8] (fun x t i wr => ∃ q : Nat, q ≤ k ∧ i = .int .i64 q ∧ x = .int .i64 (m / 256 ^ q : Nat) ∧ t = .string ⟨(be q m).toArray⟩ ∧ Hid (Below w.heap.size w wr)) (fun _ _ i _ => k - (intOf i).toNat)
    case atStart => exact ⟨0, by omega, rfl, by simp, rfl, Below.refl _ _⟩
    case round =>
      obtain ⟨q, hq, rfl, rfl, rfl, HB⟩ := hrel
      have hd : m / 256 ^ q ≤ m := Nat.div_le_self _ _
      have HS : Hid (m / 256 ^ q / 256 = m / 256 ^ (q + 1)) := by show _ = _; rw [Nat.div_div_eq_div_mul, Nat.pow_succ]
      have hbl : (ByteArray.mk (be q m).toArray).size ≤ 7 := by simp [ByteArray.size, be_len]; omega
      by_cases hlt : q < k
      · have HE := Lib.hid (be_front q m)
        generalize m / 256 ^ q = z at *
        generalize hb : ByteArray.mk (be q m).toArray = b at *
        have HBB := Lib.hid hb
        clear hb
        go_wp2
        go_roundw
        case rel =>
          refine ⟨q + 1, by omega, by go_num, by rw [← HS.out]; go_num, ?_, HB.out.alloc HB.out.size _⟩
          rw [HE.out, ← HBB.out]
          congr 1
        case measure => simp [intOf]; omega
      · obtain rfl : q = k := by omega
        go_wp2
        go_ret
        refine ⟨?_, HB.out⟩
        unfold putS
        rw [if_pos hfit]; rfl
  · have hfit' : fitsB n size = false := by simpa using hfit
    go_enter Try.func26, Try.ntmps26
    go_wp2_with (go_at_call 52; (with_reducible refine (rfits_any _ _ _ hn).mono ?_); rintro e w' ⟨rfl, rfl⟩)
    go_ret
    refine ⟨?_, Below.refl _ _⟩
    unfold putS
    rw [if_neg hfit]; rfl
end Go.Proofs.Ytemfdmbjlmiopaa
