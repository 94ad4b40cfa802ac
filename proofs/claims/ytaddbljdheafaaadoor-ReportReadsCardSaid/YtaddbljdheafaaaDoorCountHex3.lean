/-
  The bytes that digits say (chapter 1): what a digit says, twice; the text's plain value.
-/
import Derived.Test.YtaddbljdheafaaaDoorCountHex2
namespace Go.Proofs.YtaddbljdheafaaaDoor
open Go.RowKit
set_option linter.unusedVariables false
set_option linter.unusedSimpArgs false
set_option maxRecDepth 20000

/-- what a digit says; none: it is no digit -/
def vaN (c : Nat) : Option Nat := if 48 ≤ c ∧ c ≤ 57 then some (c - 48) else if 97 ≤ c ∧ c ≤ 102 then some (c - 87) else none
theorem value_any (c : Nat) (w : World) (h : c < 256) : Calls Tryd.prog 59 #[.int .u8 c] w fun e w' => e = .returned (.tuple #[.int .u8 ((vaN c).getD 0 : Nat), .bool (vaN c).isSome]) ∧ w = w' := by
  by_cases h1 : (48 : Int) ≤ c
  · by_cases h2 : (c : Int) ≤ 57
    · have HF : Hid ((c : Int) - 48 = ((vaN c).getD 0 : Nat) ∧ (vaN c).isSome = true) := by
        unfold vaN; rw [if_pos (by omega)]; exact ⟨by show _ = ((c - 48 : Nat) : Int); omega, rfl⟩
      go_enter Tryd.func59, Tryd.ntmps59
      go_wp2
      exact bodyPost_ret (v := .tuple #[.int .u8 ((c : Int) - 48), .bool true]) (by simp [results, Tryd.results59, go_sem]) rfl ⟨by rw [HF.out.1, HF.out.2], rfl⟩
    · by_cases h3 : (97 : Int) ≤ c
      · by_cases h4 : (c : Int) ≤ 102
        · have HF : Hid ((c : Int) - 87 = ((vaN c).getD 0 : Nat) ∧ (vaN c).isSome = true) := by
            unfold vaN; rw [if_neg (by omega), if_pos (by omega)]; exact ⟨by show _ = ((c - 87 : Nat) : Int); omega, rfl⟩
          go_enter Tryd.func59, Tryd.ntmps59
          go_wp2
          exact bodyPost_ret (v := .tuple #[.int .u8 ((c : Int) - 87), .bool true]) (by simp [results, Tryd.results59, go_sem]) rfl ⟨by rw [HF.out.1, HF.out.2], rfl⟩
        · have HF : Hid (vaN c = none) := by show _ = _; unfold vaN; rw [if_neg (by omega), if_neg (by omega)]
          go_enter Tryd.func59, Tryd.ntmps59
          go_wp2
          exact bodyPost_ret (v := .tuple #[.int .u8 0, .bool false]) (by simp [results, Tryd.results59, go_sem]) rfl ⟨by rw [HF.out]; rfl, rfl⟩
      · have HF : Hid (vaN c = none) := by show _ = _; unfold vaN; rw [if_neg (by omega), if_neg (by omega)]
        go_enter Tryd.func59, Tryd.ntmps59
        go_wp2
        exact bodyPost_ret (v := .tuple #[.int .u8 0, .bool false]) (by simp [results, Tryd.results59, go_sem]) rfl ⟨by rw [HF.out]; rfl, rfl⟩
  · have h3 : ¬ (97 : Int) ≤ c := by omega
    have HF : Hid (vaN c = none) := by show _ = _; unfold vaN; rw [if_neg (by omega), if_neg (by omega)]
    go_enter Tryd.func59, Tryd.ntmps59
    go_wp2
    exact bodyPost_ret (v := .tuple #[.int .u8 0, .bool false]) (by simp [results, Tryd.results59, go_sem]) rfl ⟨by rw [HF.out]; rfl, rfl⟩
/-- the reference's: -1 where it is none -/
def rvaZ (c : Nat) : Int := match vaN c with | some n => n | none => -1
theorem digs16_gd (k : Nat) (h : k < 16) : gd digs16 k = dgN k := by
  have key : ∀ n : Fin 16, gd digs16 n.val = dgN n.val := by decide +kernel
  exact key ⟨k, h⟩
theorem va_dg (k : Nat) (h : k < 16) : vaN (dgN k) = some k := by
  have key : ∀ n : Fin 16, vaN (dgN n.val) = some n.val := by decide +kernel
  exact key ⟨k, h⟩
theorem va_some {c k : Nat} (h : vaN c = some k) : k < 16 ∧ dgN k = c := by
  unfold vaN at h
  unfold dgN
  split at h
  · cases h; split <;> omega
  · split at h
    · cases h; split <;> omega
    · cases h
set_option maxHeartbeats 1600000 in
theorem rvalue_any (c : Nat) (w : World) (h : c < 256) : Calls Tryd.prog 61 #[.int .u8 c] w fun e w' => e = .returned (.int .i64 (rvaZ c)) ∧ w = w' := by
  go_enter Tryd.func61, Tryd.ntmps61
  go_wp2
  go_loopw [3] (fun i wr => ∃ k : Nat, k ≤ 16 ∧ i = .int .i64 k ∧ Hid (∀ j, j < k → dgN j ≠ c) ∧ wr = w) (fun i _ => 16 - (intOf i).toNat)
  case atStart => exact ⟨0, Nat.zero_le _, rfl, (fun j hj => by omega), by first | trivial | rfl⟩
  case round =>
    obtain ⟨k, hk, rfl, HN, rfl⟩ := hrel
    by_cases hlt : k < 16
    · have hgk : ((({ data := #[48, 49, 50, 51, 52, 53, 54, 55, 56, 57, 97, 98, 99, 100, 101, 102] } : ByteArray)[k]'hlt).toNat) = dgN k := (gd_eq (d := digs16) hlt).trans (digs16_gd k hlt)
      have hk16 : (k : Int) < 16 := by omega
      by_cases hc : dgN k = c
      · have hcb : ((dgN k : Int) == (c : Int)) = true := by rw [hc]; simp
        have HF : Hid ((k : Int) = rvaZ c) := by
          show _ = _; unfold rvaZ; rw [← hc, va_dg k hlt]
        clear hc
        go_wp2
        go_ret
        exact ⟨congrArg (fun x => Ending.returned (.int .i64 x)) HF.out, by first | trivial | rfl⟩
      · have hcb : ((dgN k : Int) == (c : Int)) = false := by rw [beq_eq_false_iff_ne]; omega
        have HN2 : Hid (∀ j, j < k + 1 → dgN j ≠ c) := fun j hj => by
          rcases Nat.lt_or_ge j k with h1 | h1
          · exact HN.out j h1
          · obtain rfl : j = k := by omega
            exact hc
        clear hc
        go_wp2
        exact ⟨⟨k + 1, by omega, by go_num, HN2, by first | trivial | rfl⟩, by simp [intOf]; omega⟩
    · have hke : k = 16 := by omega
      subst hke
      have HF : Hid ((-1 : Int) = rvaZ c) := by
        show _ = _; unfold rvaZ
        cases hv : vaN c with
        | none => rfl
        | some n => exact absurd (va_some hv).2 (HN.out n (va_some hv).1)
      go_wp2
      go_ret
      exact ⟨congrArg (fun x => Ending.returned (.int .i64 x)) HF.out, by first | trivial | rfl⟩
end Go.Proofs.YtaddbljdheafaaaDoor
