/-
  Walks over package cyclic: step, New, Add, Sum, Of.
-/
import Derived.Test.YtaddbljdheafaaaDoorRows
import Derived.Test.YtaddbljdheafaaaDoorCycPlain
import Derived.Test.YtaddbljdheafaaaDoorMine
import Derived.WalkKit
import Derived.WalkSpells
import Derived.WalkLawsBesides
import Derived.Lib.Hide
import Derived.Handy
namespace Go.Proofs.YtaddbljdheafaaaDoor
open Go.RowKit

theorem xorc_go (n c : Nat) (hn : n < 4294967296) (hc : c < 256) : bits .xor .u32 (n : Int) (c : Int) = ((n ^^^ c : Nat) : Int) :=
  u32_xor_nat n c hn (by omega)
theorem xorc_lt (n c : Nat) (hn : n < 4294967296) (hc : c < 256) : n ^^^ c < 4294967296 := by
  have := Nat.xor_lt_two_pow (x := n) (y := c) (n := 32) (by omega) (by omega); omega

set_option maxHeartbeats 400000 in
theorem cstep_any (n c : Nat) (w : World) (hn : n < 4294967296) (hc : c < 256) :
    Calls Tryd.prog 74 #[.int .u32 n, .int .u8 c] w fun e w' => e = .returned (.int .u32 (cb n c : Nat)) ∧ w = w' := by
  have H1 := Lib.hid (xorc_go n c hn hc)
  have H2 := Lib.hid (xorc_lt n c hn hc)
  go_enter Tryd.func74, Tryd.ntmps74
  go_wp2
  go_loop [0, 9] (fun x i => ∃ k : Nat, k ≤ 8 ∧ i = .int .i64 k ∧ x = .int .u32 (bsN k (n ^^^ c) : Nat)) (fun _ i => 8 - (intOf i).toNat)
  case atStart => exact ⟨0, by omega, rfl, by rw [H1.out]; rfl⟩
  case round =>
    obtain ⟨k, hk, rfl, rfl⟩ := hrel
    have hb := bsN_lt k H2.out
    by_cases hlt : k < 8
    · have hg := bs_go _ hb
      have HG : Hid (bits .xor .u32 ((bsN k (n ^^^ c) : Nat) / 2) (bits .and .u32 3988292384 ((-(bits .and .u32 ((bsN k (n ^^^ c) : Nat) : Int) 1)) % 4294967296)) = ((bsN (k + 1) (n ^^^ c) : Nat) : Int)) := by rw [bsN_succ]; exact hg
      clear hg
      go_wp2
      go_round
      case rel => exact ⟨k + 1, by omega, by go_num, by rw [HG.out]⟩
      case measure => simp [intOf]; omega
    · go_wp2
      go_ret
      obtain rfl : k = 8 := by omega
      exact ⟨rfl, rfl⟩

theorem all_go (n : Nat) (hn : n < 4294967296) : bits .xor .u32 (n : Int) 4294967295 = ((n ^^^ 4294967295 : Nat) : Int) := u32_xor_nat n 4294967295 hn (by omega)
theorem all_lt (n : Nat) (hn : n < 4294967296) : n ^^^ 4294967295 < 4294967296 := by
  have := Nat.xor_lt_two_pow (x := n) (y := 4294967295) (n := 32) (by omega) (by omega); omega
theorem crcFrom_take (n : Nat) (s : ByteArray) (k : Nat) (h : k < s.size) : crcFrom n (s.data.toList.take (k + 1)) = cb (crcFrom n (s.data.toList.take k)) s[k].toNat := by
  rw [List.take_succ_eq_append_getElem (by simpa using h), crcFrom_append]; rfl

set_option maxHeartbeats 400000 in
theorem cadd_any (b : Nat) (n : Nat) (s : ByteArray) (w : World) (hs : s.size ≤ maxLen) (hn : n < 4294967296) (hc : w.cell? ⟨b, 0, none⟩ = some (.int .u32 n)) (hf : w.frozen? ⟨b, 0, none⟩ = false) :
    Calls Tryd.prog 65 #[.pointer (some ⟨b, 0, none⟩), .string s] w fun e w' => e = .returned (.tuple #[]) ∧ w.setCell ⟨b, 0, none⟩ (.int .u32 (crcFrom (n ^^^ 4294967295) s.data.toList ^^^ 4294967295 : Nat)) = w' := by
  unfold maxLen at hs
  have HX := Lib.hid (all_go n hn)
  have HL := Lib.hid (all_lt n hn)
  go_enter Tryd.func65, Tryd.ntmps65
  go_wp2
  go_loop [4, 15] (fun x i => ∃ k : Nat, k ≤ s.size ∧ i = .int .i64 k ∧ x = .int .u32 (crcFrom (n ^^^ 4294967295) (s.data.toList.take k) : Nat)) (fun _ i => s.size - (intOf i).toNat)
  case atStart => exact ⟨0, by omega, rfl, by rw [HX.out]; rfl⟩
  case round =>
    obtain ⟨k, hk, rfl, rfl⟩ := hrel
    have hb := crcFrom_lt (s.data.toList.take k) HL.out
    by_cases hlt : k < s.size
    · have HT := Lib.hid (crcFrom_take (n ^^^ 4294967295) s k hlt)
      have hby : s[k].toNat < 256 := s[k].toNat_lt
      go_wp2_with (go_at_call 74; refine (cstep_any _ _ _ hb hby).mono ?_; rintro e w' ⟨rfl, rfl⟩)
      go_round
      case rel => exact ⟨k + 1, by omega, by go_num, by rw [HT.out]⟩
      case measure => simp [intOf]; omega
    · have HA := Lib.hid (all_go _ hb)
      go_wp2
      go_end0
      obtain rfl : k = s.size := by omega
      rw [HA.out]
      exact ⟨rfl, by rw [List.take_of_length_le (by simp)]⟩

theorem cadd_nil (s : ByteArray) (w : World) :
    Calls Tryd.prog 65 #[.pointer none, .string s] w fun e w' => e = .returned (.tuple #[]) ∧ w = w' := by
  go_enter Tryd.func65, Tryd.ntmps65
  go_wp2
  exact bodyPost_ret (v := .tuple #[]) (by simp [results, Tryd.results65, go_sem]) rfl ⟨rfl, rfl⟩

theorem csum_any (b : Nat) (n : Nat) (w : World) (hn : n < 4294967296) (hc : w.cell? ⟨b, 0, none⟩ = some (.int .u32 n)) :
    Calls Tryd.prog 66 #[.pointer (some ⟨b, 0, none⟩)] w fun e w' => e = .returned (.int .i64 n) ∧ w = w' := by
  go_enter Tryd.func66, Tryd.ntmps66
  go_wp2
  go_ret
  exact ⟨rfl, rfl⟩
theorem csum_nil (w : World) :
    Calls Tryd.prog 66 #[.pointer none] w fun e w' => e = .returned (.int .i64 0) ∧ w = w' := by
  go_enter Tryd.func66, Tryd.ntmps66
  go_wp2
  go_ret
  exact ⟨rfl, rfl⟩
theorem cnew_any (w : World) :
    Calls Tryd.prog 64 #[] w fun e w' => e = .returned (.pointer (some ⟨w.heap.size, 0, none⟩)) ∧ w.alloc (.cells #[.int .u32 0] 111) = w' := by
  go_enter Tryd.func64, Tryd.ntmps64
  go_wp2
  go_ret
  exact ⟨rfl, rfl⟩
set_option maxHeartbeats 400000 in
theorem cof_any (s : ByteArray) (w : World) (hs : s.size ≤ maxLen) :
    Calls Tryd.prog 52 #[.string s] w fun e w' => e = .returned (.int .i64 (crcOf s.data.toList : Nat)) ∧ Below w.heap.size w w' := by
  have HL := Lib.hid (all_lt _ (crcFrom_lt s.data.toList (n := 4294967295) (by omega)))
  go_enter Tryd.func52, Tryd.ntmps52
  go_wp2_with (go_at_call 64; refine (cnew_any _).mono ?_; rintro e w' ⟨rfl, rfl⟩)
  refine (cadd_any w.heap.size 0 s _ hs (by omega) (by simp [go_sem]) (by simp [go_sem])).mono ?_
  rintro e w' ⟨rfl, rfl⟩
  go_wp2_with fail
  refine (csum_any w.heap.size (crcOf s.data.toList) _ HL.out ?_).mono ?_
  · simp [go_sem]; rfl
  rintro e w' ⟨rfl, rfl⟩
  go_wp2
  go_ret
  exact ⟨rfl, (Below.refl _ _).alloc (Nat.le_refl _) _⟩

theorem cconv4 (W : World) (n0 n1 n2 n3 : Int) :
    (convert 77 9 (.slice (some ⟨W.heap.size, 0, none⟩) 4 4)).run Tryd.prog (W.alloc (.cells #[.int .u8 n0, .int .u8 n1, .int .u8 n2, .int .u8 n3] 90)) =
      .ok (.string (strOfNums [n0, n1, n2, n3])) (W.alloc (.cells #[.int .u8 n0, .int .u8 n1, .int .u8 n2, .int .u8 n3] 90)) := by
  refine run_convert_bytes_arg _ 77 5 Tryd.underlying77 Tryd.underlying5 W.heap.size 0 4 4 [n0, n1, n2, n3] rfl (fun i hi => ?_) 9 Tryd.underlying9
  have : i = 0 ∨ i = 1 ∨ i = 2 ∨ i = 3 := by omega
  rcases this with rfl | rfl | rfl | rfl <;> simp [go_sem]

theorem cconv4b (W : World) (n0 n1 n2 n3 : Int) :
    (convert 77 9 (.slice (some ⟨W.heap.size, 0, none⟩) 4 4)).run Tryd.prog (W.alloc (.cells #[.int .u8 n0, .int .u8 n1, .int .u8 n2, .int .u8 n3] 5)) =
      .ok (.string (strOfNums [n0, n1, n2, n3])) (W.alloc (.cells #[.int .u8 n0, .int .u8 n1, .int .u8 n2, .int .u8 n3] 5)) := by
  refine run_convert_bytes_arg _ 77 5 Tryd.underlying77 Tryd.underlying5 W.heap.size 0 4 4 [n0, n1, n2, n3] rfl (fun i hi => ?_) 9 Tryd.underlying9
  have : i = 0 ∨ i = 1 ∨ i = 2 ∨ i = 3 := by omega
  rcases this with rfl | rfl | rfl | rfl <;> simp [go_sem]

/-- a sum's bytes, the low one first -/
def le4 (n : Nat) : ByteArray := strOfNums [(n : Int) % 256, (n : Int) / 256 % 256, (n : Int) / 65536 % 256, (n : Int) / 16777216]

set_option maxHeartbeats 800000 in
theorem ctail_any (s : ByteArray) (w : World) (hs : s.size ≤ maxLen) :
    Calls Tryd.prog 37 #[.string s] w fun e w' => e = .returned (.string (le4 (crcOf s.data.toList))) ∧ Below w.heap.size w w' := by
  have hl := all_lt _ (crcFrom_lt s.data.toList (n := 4294967295) (by omega))
  have hcv := cconv4
  go_enter Tryd.func37, Tryd.ntmps37
  go_wp2_with (go_at_call 52; refine (cof_any _ _ hs).mono ?_; rintro e w1 ⟨rfl, hb⟩)
  have hl : crcOf s.data.toList < 4294967296 := hl
  go_rounds 5
  go_ret
  exact ⟨rfl, (hb.alloc hb.size _)⟩

/-! ### the reference -/
theorem xor_i64 (a b : Nat) (ha : a < 4294967296) (hb : b < 4294967296) : bits .xor .i64 (a : Int) (b : Int) = ((a ^^^ b : Nat) : Int) :=
  (by
    have h := Nat.xor_lt_two_pow (x := a) (y := b) (n := 32) (by omega) (by omega)
    simp only [bits, BitVec.ofInt_natCast, BitVec.toNat_xor, BitVec.toNat_ofNat]
    rw [Nat.mod_eq_of_lt (by simp [IntKind.bits]; omega), Nat.mod_eq_of_lt (by simp [IntKind.bits]; omega), IntKind.wrap_i64]
    omega)
theorem refstep0 (n : Nat) (h : n % 2 = 0) : n / 2 = bs n := by unfold bs; rw [if_neg (by omega)]; simp
theorem refstep1 (n : Nat) (h : n % 2 = 1) (hn : n < 4294967296) : bits .xor .i64 ((n : Int) / 2) 3988292384 = ((bs n : Nat) : Int) := by
  unfold bs; rw [if_pos h]; exact xor_i64 (n / 2) 3988292384 (by omega) (by omega)
set_option maxHeartbeats 800000 in
theorem crefof_any (s : ByteArray) (w : World) (hs : s.size ≤ maxLen) :
    Calls Tryd.prog 53 #[.string s] w fun e w' => e = .returned (.int .i64 (crcOf s.data.toList : Nat)) ∧ ∃ n, w.drewN n = w' := by
  unfold maxLen at hs
  go_enter Tryd.func53, Tryd.ntmps53
  go_wp2
  go_loop [3, 4] (fun x i => ∃ k : Nat, k ≤ s.size ∧ i = .int .i64 k ∧ x = .int .i64 (crcFrom 4294967295 (s.data.toList.take k) : Nat)) (fun _ i => s.size - (intOf i).toNat)
  case atStart => exact ⟨0, by omega, rfl, rfl⟩
  case round =>
    obtain ⟨k, hk, rfl, rfl⟩ := hrel
    have hb := crcFrom_lt (s.data.toList.take k) (n := 4294967295) (by omega)
    by_cases hlt : k < s.size
    · have hby : s[k].toNat < 256 := s[k].toNat_lt
      have HX := Lib.hid (xor_i64 _ s[k].toNat hb (by omega))
      have HL := Lib.hid (xorc_lt _ _ hb hby)
      have HT := Lib.hid (crcFrom_take 4294967295 s k hlt)
      generalize crcFrom 4294967295 (List.take k s.data.toList) = n0 at *
      go_wp2
      go_loop [3, 5] (fun x j => ∃ q : Nat, q ≤ 8 ∧ j = .int .i64 q ∧ x = .int .i64 (bsN q (n0 ^^^ s[k].toNat) : Nat)) (fun _ j => 8 - (intOf j).toNat)
      case atStart => exact ⟨0, by omega, rfl, by rw [HX.out]; rfl⟩
      case round =>
        obtain ⟨q, hq, rfl, rfl⟩ := hrel
        have hbq := bsN_lt q HL.out
        have HS := Lib.hid (bsN_succ q (n0 ^^^ s[k].toNat))
        by_cases hlq : q < 8
        · by_cases hpar : bsN q (n0 ^^^ s[k].toNat) % 2 = 1
          · have HR := Lib.hid (refstep1 _ hpar hbq)
            have hm : ((bsN q (n0 ^^^ s[k].toNat) : Nat) : Int) % 2 = 1 := by omega
            go_wp2
            go_round
            case rel => exact ⟨q + 1, by omega, by go_num, by rw [HR.out, HS.out]⟩
            case measure => simp [intOf]; omega
          · have HR := Lib.hid (refstep0 _ (by omega : bsN q (n0 ^^^ s[k].toNat) % 2 = 0))
            have hm : ((bsN q (n0 ^^^ s[k].toNat) : Nat) : Int) % 2 = 0 := by omega
            go_wp2
            go_round
            case rel => exact ⟨q + 1, by omega, by go_num, by rw [HS.out, ← HR.out]; go_num⟩
            case measure => simp [intOf]; omega
        · obtain rfl : q = 8 := by omega
          go_wp2
          go_round
          case rel => exact ⟨k + 1, by omega, by go_num, by rw [HT.out]; rfl⟩
          case measure => simp [intOf]; omega
    · have HA := Lib.hid (xor_i64 _ 4294967295 hb (by omega))
      go_wp2
      go_ret
      obtain rfl : k = s.size := by omega
      refine ⟨?_, 0, rfl⟩
      show Ending.returned (.int .i64 (bits .xor .i64 _ 4294967295)) = _
      rw [show (4294967295 : Int) = ((4294967295 : Nat) : Int) from rfl, HA.out, List.take_of_length_le (by simp)]; rfl

set_option maxHeartbeats 800000 in
theorem creftail_any (s : ByteArray) (w : World) (hs : s.size ≤ maxLen) :
    Calls Tryd.prog 39 #[.string s] w fun e w' => e = .returned (.string (le4 (crcOf s.data.toList))) ∧ Below w.heap.size w w' := by
  have hl := all_lt _ (crcFrom_lt s.data.toList (n := 4294967295) (by omega))
  go_enter Tryd.func39, Tryd.ntmps39
  have hcv := cconv4b
  have hl' : crcOf s.data.toList < 4294967296 := hl
  clear hl
  go_wp2_with (go_at_call 53; refine (crefof_any _ _ hs).mono ?_; rintro e w1 ⟨rfl, hb⟩)
  go_ret
  obtain ⟨n, rfl⟩ := hb
  have h4 : ((crcOf s.data.toList : Nat) : Int) / 16777216 = ((crcOf s.data.toList : Nat) : Int) / 16777216 % 256 := by omega
  refine ⟨?_, ?_⟩
  · unfold le4; rw [← h4]; rfl
  exact ((below_drewN (Below.refl _ _) n).alloc (Nat.le_refl _) _)
end Go.Proofs.YtaddbljdheafaaaDoor
