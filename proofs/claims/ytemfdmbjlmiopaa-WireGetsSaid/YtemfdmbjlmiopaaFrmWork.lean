/-
  Messages and frames as bytes (chapter 25): that they work; what is great.
-/
import Derived.Test.YtemfdmbjlmiopaaFrm6
import Derived.Test.YtemfdmbjlmiopaaWire7
namespace Go.Proofs.Ytemfdmbjlmiopaa
open Go.RowKit
set_option linter.unusedVariables false
set_option linter.unusedSimpArgs false
theorem big_any (k a b : Int) (d : ByteArray) (p q : Int) (e : ByteArray) (r s : Int) (f : ByteArray) (w : World) : Calls Try.prog 8 #[SS k a b d p q e r s f] w fun e' w' => e' = .returned (.bool (decide (1000 < (d.size : Int)) || (decide (1000 < (e.size : Int)) || decide (1000 < (f.size : Int))))) ∧ Below w.heap.size w w' := by
  cases h1 : decide (1000 < (d.size : Int))
  · cases h2 : decide (1000 < (e.size : Int))
    · go_enter Try.func8, Try.ntmps8
      go_wp2
      go_ret
      exact ⟨rfl, (Below.refl _ _).alloc (Nat.le_refl _) _⟩
    · go_enter Try.func8, Try.ntmps8
      go_wp2
      go_ret
      exact ⟨rfl, (Below.refl _ _).alloc (Nat.le_refl _) _⟩
  · go_enter Try.func8, Try.ntmps8
    go_wp2
    go_ret
    exact ⟨rfl, (Below.refl _ _).alloc (Nat.le_refl _) _⟩
/-- how long a frame's bytes are -/
theorem fputS_size (f : Fr) : (fputS f).size ≤ 1000 := by
  have h0 : (⟨#[]⟩ : ByteArray).size = 0 := rfl
  unfold fputS
  split
  · by_cases hp : putE 9 (fhead f ++ f.b) = 0
    · rw [(put_good hp).1]
      obtain ⟨k, hk9, hk, hb⟩ := putE_ok hp
      have hkk : k = 9 := by omega
      subst hkk
      have h1 := headS_size 9 (fhead f ++ f.b) hk hb
      have h2 := tailS_size (headS 9 (fhead f ++ f.b))
      rw [ByteArray.size_append]
      rw [show ((9 : Nat) : Int) = 9 from rfl] at h1
      omega
    · rw [(put_bad rfl hp).1]; omega
  · omega
def M0 : Mg := ⟨2, 3, 0, 0, ⟨0, 0, 0, ⟨#[]⟩, ⟨0, 0, ⟨#[]⟩⟩, ⟨0, 0, ⟨#[]⟩⟩⟩, 0⟩
def F0 : Fr := ⟨1, 2, 1, 0, 0, 4, 0, ⟨#[97, 98]⟩⟩
theorem m0_chk : mchk M0 = 0 := by decide +kernel
theorem m0_put : mput M0 = ⟨#[2, 3]⟩ := by decide +kernel
theorem m0_get : mgetE ⟨#[2, 3]⟩ = 0 ∧ mget ⟨#[2, 3]⟩ = M0 := m0_put ▸ mput_get M0 m0_chk
theorem f0_put : fputE F0 = 0 := by decide +kernel
theorem mb0 : MB 2 3 0 0 ⟨0, 0, 0, ⟨#[]⟩, ⟨0, 0, ⟨#[]⟩⟩, ⟨0, 0, ⟨#[]⟩⟩⟩ 0 := ⟨by decide, by decide, by decide, by decide, by decide, by decide, by decide, by decide, by decide, by decide, by decide, by decide, by decide, by decide⟩
theorem wk1 (w : World) : Calls Try.prog 9 #[.agg #[.int .i64 2, .int .i64 3, .int .i64 0, .int .i64 0, .int .i64 0, .int .i64 0, .int .i64 0, .string ⟨#[]⟩, .int .i64 0, .int .i64 0, .string ⟨#[]⟩, .int .i64 0, .int .i64 0, .string ⟨#[]⟩, .int .i64 0]] w fun e' w' => e' = .returned (.tuple #[.string ⟨#[2, 3]⟩, .int .i64 0]) ∧ Below w.heap.size w w' := by
  have h := wput_any mb0 w
  rw [show mput ⟨2, 3, 0, 0, ⟨0, 0, 0, ⟨#[]⟩, ⟨0, 0, ⟨#[]⟩⟩, ⟨0, 0, ⟨#[]⟩⟩⟩, 0⟩ = ⟨#[2, 3]⟩ from m0_put, show mchk ⟨2, 3, 0, 0, ⟨0, 0, 0, ⟨#[]⟩, ⟨0, 0, ⟨#[]⟩⟩, ⟨0, 0, ⟨#[]⟩⟩⟩, 0⟩ = 0 from m0_chk] at h
  exact h
theorem wk2 (w : World) : Calls Try.prog 13 #[.string ⟨#[2, 3]⟩] w fun e' w' => e' = .returned (.tuple #[.agg #[.int .i64 2, .int .i64 3, .int .i64 0, .int .i64 0, .int .i64 0, .int .i64 0, .int .i64 0, .string ⟨#[]⟩, .int .i64 0, .int .i64 0, .string ⟨#[]⟩, .int .i64 0, .int .i64 0, .string ⟨#[]⟩, .int .i64 0], .int .i64 0]) ∧ Below w.heap.size w w' := by
  have h := wget_any ⟨#[2, 3]⟩ w (by decide)
  rw [m0_get.1, m0_get.2] at h
  exact h
theorem wk3 (w : World) : Calls Try.prog 15 #[.agg #[.int .i64 1, .int .i64 2, .int .i64 1, .int .i64 0, .int .i64 0, .int .i64 4, .int .i64 0, .string ⟨#[97, 98]⟩]] w fun e' w' => e' = .returned (.tuple #[.string (fputS F0), .int .i64 0]) ∧ Below w.heap.size w w' := by
  have h := wputf_any (n := 1) (fb := 2) (ft := 1) (tb := 0) (tt := 0) (s := 4) (a := 0) (b := ⟨#[97, 98]⟩) w (by decide)
  rw [show fputE ⟨1, 2, 1, 0, 0, 4, 0, ⟨#[97, 98]⟩⟩ = 0 from f0_put] at h
  exact h
theorem wk4 (w : World) : Calls Try.prog 17 #[.string (fputS F0)] w fun e' w' => e' = .returned (.tuple #[.agg #[.int .i64 1, .int .i64 2, .int .i64 1, .int .i64 0, .int .i64 0, .int .i64 4, .int .i64 0, .string ⟨#[97, 98]⟩], .int .i64 0]) ∧ Below w.heap.size w w' := by
  have h := getf_any (fputS F0) w (Nat.le_trans (fputS_size F0) (by decide))
  obtain ⟨h1, h2⟩ := fput_get F0 f0_put
  rw [h1, h2] at h
  exact h
set_option maxRecDepth 20000 in
set_option maxHeartbeats 3200000 in
theorem works_any (w : World) : Calls Try.prog 7 #[] w fun e w' => e = .returned (.bool true) ∧ Below w.heap.size w w' := by
  have C1 := Lib.hid wk1
  have C2 := Lib.hid wk2
  have C3 := Lib.hid wk3
  have C4 := Lib.hid wk4
  generalize fputS F0 = T at *
  go_enter Try.func7, Try.ntmps7
  go_wp2_with fail
  refine (C1.out _).mono ?_
  rintro e' W1 ⟨rfl, hA⟩
  have HB := Lib.hid hA
  clear hA C1
  go_wp2_with fail
  refine (C2.out _).mono ?_
  rintro e' W2 ⟨rfl, hA⟩
  replace HB := Lib.hid (bt HB.out hA)
  clear hA C2
  have HM := Lib.hid (MC.new W2 2 3 0 0 ⟨0, 0, 0, ⟨#[]⟩, ⟨0, 0, ⟨#[]⟩⟩, ⟨0, 0, ⟨#[]⟩⟩⟩ 0 29)
  have hA := (Below.refl W2.heap.size W2).alloc (Nat.le_refl _) (.cells #[.int .i64 2, .int .i64 3, .int .i64 0, .int .i64 0, .int .i64 0, .int .i64 0, .int .i64 0, .string ⟨#[]⟩, .int .i64 0, .int .i64 0, .string ⟨#[]⟩, .int .i64 0, .int .i64 0, .string ⟨#[]⟩, .int .i64 0] 29)
  replace HB := Lib.hid (bt HB.out hA)
  clear hA
  go_wp2_with fail
  generalize W2.alloc (.cells #[.int .i64 2, .int .i64 3, .int .i64 0, .int .i64 0, .int .i64 0, .int .i64 0, .int .i64 0, .string ⟨#[]⟩, .int .i64 0, .int .i64 0, .string ⟨#[]⟩, .int .i64 0, .int .i64 0, .string ⟨#[]⟩, .int .i64 0] 29) = W3 at *
  generalize W2.heap.size = KM at *
  refine (C3.out _).mono ?_
  rintro e' W4 ⟨rfl, hA⟩
  replace HB := Lib.hid (bt HB.out hA)
  replace HM := Lib.hid (HM.out.below hA)
  clear hA C3
  go_wp2_with fail
  refine (C4.out _).mono ?_
  rintro e' W5 ⟨rfl, hA⟩
  replace HB := Lib.hid (bt HB.out hA)
  replace HM := Lib.hid (HM.out.below hA)
  clear hA C4
  have HF := Lib.hid (FC.new W5 ⟨1, 2, 1, 0, 0, 4, 0, ⟨#[97, 98]⟩⟩ 45)
  have hA := (Below.refl W5.heap.size W5).alloc (Nat.le_refl _) (.cells #[.int .i64 1, .int .i64 2, .int .i64 1, .int .i64 0, .int .i64 0, .int .i64 4, .int .i64 0, .string ⟨#[97, 98]⟩] 45)
  replace HB := bt HB.out hA
  replace HM := Lib.hid (HM.out.below hA)
  clear hA
  obtain ⟨m0, m1, m2, m3, m4, m5, m6, m7, m8, m9, m10, m11, m12, m13, m14⟩ := HM.out
  obtain ⟨f0, f1, f2, f3, f4, f5, f6, f7⟩ := HF.out
  go_wp2
  go_ret
  exact ⟨rfl, HB⟩
end Go.Proofs.Ytemfdmbjlmiopaa
