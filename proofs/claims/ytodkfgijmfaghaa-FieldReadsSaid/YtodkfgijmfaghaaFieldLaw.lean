/-
  Walks over the statements of chapter 2.
-/
import Derived.Test.YtodkfgijmfaghaaFieldRR
namespace Go.Proofs.Ytodkfgijmfaghaa
open Go.RowKit
set_option linter.unusedVariables false

theorem k1 : putS ⟨#[]⟩ 258 2 = ⟨#[1, 2]⟩ := by decide +kernel
theorem k2 : nmOut ⟨#[1, 2, 97]⟩ 0 2 = 258 ∧ nmRest ⟨#[1, 2, 97]⟩ 0 2 = ⟨#[97]⟩ ∧ nmErr ⟨#[1, 2, 97]⟩ 0 2 = 0 := by decide +kernel
theorem k3 : rdEnd ⟨#[97]⟩ 0 = 2 ∧ rdOut ⟨#[97]⟩ 0 1 = ⟨#[97]⟩ ∧ rdRest ⟨#[97]⟩ 0 1 = ⟨#[]⟩ ∧ rdErr ⟨#[97]⟩ 0 1 = 0 ∧ rdEnd ⟨#[]⟩ 0 = 0 := by decide +kernel
set_option maxHeartbeats 1600000 in
theorem works_any (w : World) : Calls Try.prog 6 #[] w fun e w' => e = .returned (.bool true) ∧ Below w.heap.size w w' := by
  go_enter Try.func6, Try.ntmps6
  go_wp2_with fail
  refine (new_any _ _).mono ?_
  rintro e w1 ⟨rfl, rfl⟩
  have I0 := IsRd.new w ⟨#[1, 2, 97]⟩ 0 44
  go_wp2_with fail
  refine (put_any _ _ _ _ (by omega) (by decide)).mono ?_
  rintro e w1 ⟨rfl, hb1⟩
  rw [k1]
  have I1 := I0.frm (S := fun _ => False) (Frm.ofBelow hb1) (fun h => h)
  have F1 : Frm (· = w.heap.size) _ w1 := Frm.ofBelow hb1
  clear I0 hb1
  go_wp2_with fail
  refine (num_any _ 2 _ _ _ (by decide) I1).mono ?_
  rintro e w2 ⟨rfl, I2, F2⟩
  rw [k2.1]
  rw [k2.2.1, k2.2.2] at I2
  replace F2 := F1.trans F2
  clear I1 F1
  go_wp2_with fail
  refine (left_any _ _ _ _ I2).mono ?_
  rintro e w3 ⟨rfl, rfl⟩
  rw [show (ByteArray.mk #[97]).size = 1 from rfl]
  go_wp2_with fail
  refine (end_any _ _ _ _ I2).mono ?_
  rintro e w3 ⟨rfl, rfl⟩
  rw [k3.1]
  go_wp2_with fail
  refine (bytes_any _ 1 _ _ _ (by decide) I2).mono ?_
  rintro e w3 ⟨rfl, I3, F3⟩
  rw [k3.2.1]
  rw [k3.2.2.1, k3.2.2.2.1] at I3
  replace F3 := F2.trans F3
  clear I2 F2
  go_wp2_with fail
  refine (end_any _ _ _ _ I3).mono ?_
  rintro e w4 ⟨rfl, rfl⟩
  rw [k3.2.2.2.2]
  go_wp2_with fail
  go_ret
  exact ⟨rfl, F3.after ((Below.refl _ _).alloc (Nat.le_refl _) _) (by simp) (fun k hk => by omega)⟩

set_option maxHeartbeats 1600000 in
theorem walk_FieldPuts (s : ByteArray) (hs : s.size ≤ 140737488351232) (n : Int) (hn : (Lit.int .i64 n).wf = true) (size : Int) (hz : (Lit.int .i64 size).wf = true) {w : World} :
    Calls Try.prog 3 #[.string s, .int .i64 n, .int .i64 size] w fun e w' => e = .returned (.bool true) ∧ Below w.heap.size w w' := by
  have hnb : n ≤ 9223372036854775807 := by have := bounds_i64 hn; omega
  have HN := Lib.hid hnb
  have hsb : s.size ≤ 140737488355328 := by omega
  have HS := Lib.hid hsb
  clear hnb hsb hn hz
  by_cases hbig : 3000 < (s.size : Int)
  · go_enter Try.func3, Try.ntmps3
    go_wp2_with (go_at_call 6; (with_reducible refine (works_any _).mono ?_); rintro e w1 ⟨rfl, hb1⟩)
    go_ret
    exact ⟨rfl, hb1⟩
  · go_enter Try.func3, Try.ntmps3
    go_wp2_with (first | (go_at_call 6; (with_reducible refine (works_any _).mono ?_); rintro e w1 ⟨rfl, hb1⟩) | (go_at_call 7; (with_reducible refine (fits_any _ _ _ HN.out).mono ?_); rintro e w2 ⟨rfl, rfl⟩) | (go_at_call 8; (with_reducible refine (rfits_any _ _ _ HN.out).mono ?_); rintro e w2 ⟨rfl, rfl⟩) | (go_at_call 9; (with_reducible refine (put_any _ _ _ _ HN.out HS.out).mono ?_); rintro e w3 ⟨rfl, hb3⟩) | (go_at_call 10; (with_reducible refine (rput_any _ _ _ _ HN.out HS.out).mono ?_); rintro e w4 ⟨rfl, hb4⟩))
    go_ret
    exact ⟨rfl, bt (bt hb1 hb3) hb4⟩

theorem fits_nat {n size : Int} (h : fitsB n size = true) : ∃ a k : Nat, n = a ∧ size = k ∧ 1 ≤ k ∧ k ≤ 7 ∧ a < 256 ^ k := by
  obtain ⟨h1, h7, h0, hlt⟩ := fits_iff.1 h
  obtain ⟨a, rfl⟩ := Int.eq_ofNat_of_zero_le h0
  obtain ⟨k, rfl⟩ := Int.eq_ofNat_of_zero_le (show 0 ≤ size by omega)
  refine ⟨a, k, rfl, rfl, by omega, by omega, ?_⟩
  rw [Int.toNat_natCast] at hlt
  have h2 : ((256 ^ k : Nat) : Int) = (256 : Int) ^ k := Int.natCast_pow 256 k
  exact Int.ofNat_lt.1 (h2 ▸ hlt)
theorem k4 : nmOut ⟨#[]⟩ 0 1 = 0 ∧ nmRest ⟨#[]⟩ 0 1 = ⟨#[]⟩ ∧ nmErr ⟨#[]⟩ 0 1 = 1 ∧ rdEnd ⟨#[]⟩ 1 = 1 := by decide +kernel
theorem putS_size (s : ByteArray) (n size : Int) : (putS s n size).size ≤ s.size + 7 := by
  unfold putS
  by_cases h : fitsB n size = true
  · rw [if_pos h]
    obtain ⟨h1, h7, h0, hlt⟩ := fits_iff.1 h
    rw [ByteArray.size_append, be_size]; omega
  · rw [if_neg h]; omega
set_option maxRecDepth 100000 in
set_option maxHeartbeats 3200000 in
theorem walk_FieldBack (a : Int) (wa : (Lit.int .i64 a).wf = true) (b : Int) (wb : (Lit.int .i64 b).wf = true) (size : Int) (wz : (Lit.int .i64 size).wf = true) (s : ByteArray) (hs : s.size ≤ 140737488351232) {w : World} :
    Calls Try.prog 5 #[.int .i64 a, .int .i64 b, .int .i64 size, .string s] w fun e w' => e = .returned (.bool true) ∧ Below w.heap.size w w' := by
  have hab : a ≤ 9223372036854775807 := by have := bounds_i64 wa; omega
  have HA := Lib.hid hab
  have hbb : b ≤ 9223372036854775807 := by have := bounds_i64 wb; omega
  have HB := Lib.hid hbb
  clear hab hbb wa wb wz
  by_cases hbig : 3000 < (s.size : Int)
  · go_enter Try.func5, Try.ntmps5
    go_wp2_with (go_at_call 6; (with_reducible refine (works_any _).mono ?_); rintro e w1 ⟨rfl, hb1⟩)
    go_ret
    exact ⟨rfl, hb1⟩
  by_cases hfa : fitsB a size = true
  · by_cases hfb : fitsB b 7 = true
    · obtain ⟨x, k, rfl, rfl, hk1, hk7, hx⟩ := fits_nat hfa
      obtain ⟨y, k', rfl, e7, _, _, hy⟩ := fits_nat hfb
      obtain rfl : k' = 7 := by omega
      have HT := Lib.hid (back_text x y k s hfa hfb)
      have hz1 : (putS (putS ⟨#[]⟩ x k) y 7).size ≤ 14 := by
        have h1 := putS_size (putS ⟨#[]⟩ x k) y 7
        have h2 := putS_size ⟨#[]⟩ x k
        have h3 : (ByteArray.mk #[]).size = 0 := rfl
        omega
      have hz0 : (putS ⟨#[]⟩ (x : Int) k).size ≤ 140737488355328 := by
        have h2 := putS_size ⟨#[]⟩ x k
        have h3 : (ByteArray.mk #[]).size = 0 := rfl
        omega
      have HZ0 := Lib.hid hz0
      have hz2 : (putS (putS ⟨#[]⟩ x k) y 7 ++ s).size ≤ 140737488355328 := by rw [ByteArray.size_append]; omega
      have HZ2 := Lib.hid hz2
      generalize hX0 : ByteArray.mk (be k x).toArray = P at *
      generalize hY0 : ByteArray.mk (be 7 y).toArray = R at *
      have N0 := Lib.hid (nm_front k x (R ++ (s ++ (P ++ ⟨#[]⟩))) hk1 hk7 hx)
      have N1 := Lib.hid (nm_front 7 y (s ++ (P ++ ⟨#[]⟩)) (by omega) (by omega) hy)
      have N2 := Lib.hid (rd_front s (P ++ ⟨#[]⟩))
      have N3 := Lib.hid (nm_front k x ⟨#[]⟩ hk1 hk7 hx)
      rw [hX0] at N0 N3
      rw [hY0, show ((7 : Nat) : Int) = 7 from rfl] at N1
      have HP : P.size ≤ 7 := by rw [← hX0, be_size]; omega
      have HR : R.size ≤ 7 := by rw [← hY0, be_size]; omega
      have hm0 : (P ++ (R ++ (s ++ (P ++ ⟨#[]⟩)))).size ≤ maxLen := by simp only [ByteArray.size_append]; unfold maxLen; have h3 : (ByteArray.mk #[]).size = 0 := rfl; omega
      have hm1 : (R ++ (s ++ (P ++ ⟨#[]⟩))).size ≤ maxLen := by simp only [ByteArray.size_append]; unfold maxLen; have h3 : (ByteArray.mk #[]).size = 0 := rfl; omega
      have hm2 : (s ++ (P ++ ⟨#[]⟩)).size ≤ maxLen := by simp only [ByteArray.size_append]; unfold maxLen; have h3 : (ByteArray.mk #[]).size = 0 := rfl; omega
      have hm3 : (P ++ ⟨#[]⟩).size ≤ maxLen := by simp only [ByteArray.size_append]; unfold maxLen; have h3 : (ByteArray.mk #[]).size = 0 := rfl; omega
      have HM0 := Lib.hid hm0
      have HM1 := Lib.hid hm1
      have HM2 := Lib.hid hm2
      have HM3 := Lib.hid hm3
      have hd : decide (3000 < (s.size : Int)) = false := decide_eq_false hbig
      clear hm0 hm1 hm2 hm3 hX0 hY0 hz0 hz2 hx hy HP HR e7
      go_enter Try.func5, Try.ntmps5
      go_wp2_with fail
      refine (works_any _).mono ?_
      rintro e w1 ⟨rfl, hb1⟩
      go_wp2_with fail
      refine (fits_any _ _ _ HA.out).mono ?_
      rintro e w2 ⟨rfl, rfl⟩
      go_wp2_with fail
      refine (fits_any _ _ _ HB.out).mono ?_
      rintro e w2 ⟨rfl, rfl⟩
      go_wp2_with fail
      refine (put_any _ _ _ _ HA.out (Nat.zero_le _)).mono ?_
      rintro e w2 ⟨rfl, hb2⟩
      go_wp2_with fail
      refine (put_any _ _ _ _ HB.out HZ0.out).mono ?_
      rintro e w3 ⟨rfl, hb3⟩
      go_wp2_with fail
      refine (put_any _ _ _ _ HA.out HZ2.out).mono ?_
      rintro e w4 ⟨rfl, hb4⟩
      rw [HT.out]
      have HW := Lib.hid (bt (bt (bt hb1 hb2) hb3) hb4)
      clear hb1 hb2 hb3 hb4
      go_wp2_with fail
      refine (new_any _ _).mono ?_
      rintro e w5 ⟨rfl, rfl⟩
      have I0 := IsRd.new w4 (P ++ (R ++ (s ++ (P ++ ⟨#[]⟩)))) 0 44
      go_wp2_with fail
      refine (num_any _ _ _ _ _ HM0.out I0).mono ?_
      rintro e w5 ⟨rfl, I1, F1⟩
      rw [N0.out.1]
      rw [N0.out.2.1, N0.out.2.2] at I1
      go_wp2_with fail
      refine (num_any _ _ _ _ _ HM1.out I1).mono ?_
      rintro e w6 ⟨rfl, I2, F2⟩
      rw [N1.out.1]
      rw [N1.out.2.1, N1.out.2.2] at I2
      replace F2 := F1.trans F2
      go_wp2_with fail
      refine (bytes_any _ _ _ _ _ HM2.out I2).mono ?_
      rintro e w7 ⟨rfl, I3, F3⟩
      rw [N2.out.2.1]
      rw [N2.out.1, N2.out.2.2] at I3
      replace F3 := F2.trans F3
      go_wp2_with fail
      refine (num_any _ _ _ _ _ HM3.out I3).mono ?_
      rintro e w8 ⟨rfl, I4, F4⟩
      rw [N3.out.1]
      rw [N3.out.2.1, N3.out.2.2] at I4
      replace F4 := F3.trans F4
      go_wp2_with fail
      refine (end_any _ _ _ _ I4).mono ?_
      rintro e w9 ⟨rfl, rfl⟩
      rw [k3.2.2.2.2]
      go_wp2_with fail
      refine (num_any _ _ _ _ _ (Nat.zero_le _) I4).mono ?_
      rintro e w10 ⟨rfl, I5, F5⟩
      rw [k4.1]
      rw [k4.2.1, k4.2.2.1] at I5
      replace F5 := F4.trans F5
      go_wp2_with fail
      refine (end_any _ _ _ _ I5).mono ?_
      rintro e w9 ⟨rfl, rfl⟩
      rw [k4.2.2.2]
      go_wp2_with fail
      go_ret
      exact ⟨rfl, F5.after (HW.out.alloc HW.out.size _) (by simp; exact Nat.le_succ_of_le HW.out.size) (fun j hj => by have := HW.out.size; omega)⟩
    · have hfb' : fitsB b 7 = false := by simpa using hfb
      go_enter Try.func5, Try.ntmps5
      go_wp2_with fail
      refine (works_any _).mono ?_
      rintro e w1 ⟨rfl, hb1⟩
      go_wp2_with fail
      refine (fits_any _ _ _ HA.out).mono ?_
      rintro e w2 ⟨rfl, rfl⟩
      go_wp2_with fail
      refine (fits_any _ _ _ HB.out).mono ?_
      rintro e w2 ⟨rfl, rfl⟩
      go_wp2_with fail
      go_ret
      exact ⟨rfl, hb1⟩
  · have hfa' : fitsB a size = false := by simpa using hfa
    go_enter Try.func5, Try.ntmps5
    go_wp2_with (first | (go_at_call 6; (with_reducible refine (works_any _).mono ?_); rintro e w1 ⟨rfl, hb1⟩) | (go_at_call 7; (with_reducible refine (fits_any _ _ _ HA.out).mono ?_); rintro e w2 ⟨rfl, rfl⟩))
    go_ret
    exact ⟨rfl, hb1⟩
end Go.Proofs.Ytodkfgijmfaghaa
