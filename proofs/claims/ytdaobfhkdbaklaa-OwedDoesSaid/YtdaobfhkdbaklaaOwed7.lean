/-
  What is owed: has, the nil ones, drop.
-/
import Derived.Test.YtdaobfhkdbaklaaOwed6
namespace Go.Proofs.Ytdaobfhkdbaklaa
open Go.RowKit
set_option linter.unusedVariables false
set_option linter.unusedSimpArgs false

def hasO (many : Nat) (cs : List Nat) (i k : Int) : Bool := inB many i k && (cs.getD i.toNat 0).testBit k.toNat
theorem ohas_any (o h s gM many : Nat) (bs cs : List Nat) (i k : Int) (w : World) (H : OW w o h s gM many bs cs) : Calls Try.prog 17 #[.pointer (some ⟨o, 0, none⟩), .int .i64 i, .int .i64 k] w fun e w' => e = .returned (.bool (hasO many cs i k)) ∧ w' = w := by
  have hB := bit_any o h s gM many bs cs i k w H
  have hc1 := H.c1
  have h24 := H.h24
  by_cases hin : 0 ≤ i ∧ i < many ∧ 1 ≤ k ∧ k ≤ 6
  · obtain ⟨p, rfl⟩ : ∃ p : Nat, i = p := ⟨i.toNat, by omega⟩
    obtain ⟨q, rfl⟩ : ∃ q : Nat, k = q := ⟨k.toNat, by omega⟩
    have hpm : p < many := by omega
    have hpl : p < cs.length := by rw [H.len]; exact hpm
    have hib : inB many p q = true := decide_eq_true hin
    have hv : bitV many p q = ((2 ^ q : Nat) : Int) := by unfold bitV; rw [hib, if_pos rfl, Int.toNat_natCast]
    have hcell := H.b p hpl
    obtain ⟨hlt, hev⟩ := H.lt _ (List.getElem_mem hpl)
    have hand := u8_and cs[p] q (by omega) (by omega)
    have hnz : (((2 ^ q : Nat) : Int) == 0) = false := by
      have : 0 < 2 ^ q := Nat.pow_pos (by decide)
      exact beq_eq_false_iff_ne.2 (by omega)
    have hnz2 : (((2 ^ q : Nat) : Int) != 0) = true := by
      rw [bne, hnz]; rfl
    have hab : hasO many cs p q = cs[p].testBit q := by unfold hasO; rw [hib, Bool.true_and, Int.toNat_natCast, Int.toNat_natCast, getD_at hpl]
    rw [hv] at hB
    rw [hab]
    have hB := Lib.hid hB
    clear H hv hab
    generalize cs[p].testBit q = t at *
    generalize cs[p] = c at *
    generalize ((2 ^ q : Nat) : Int) = v at *
    cases t with
    | true =>
      go_enter Try.func17, Try.ntmps17
      go_wp2_with (go_at_call 21; (with_reducible refine hB.out.mono ?_); rintro e w1 ⟨rfl, rfl⟩)
      go_ret
      exact ⟨rfl, rfl⟩
    | false =>
      go_enter Try.func17, Try.ntmps17
      go_wp2_with (go_at_call 21; (with_reducible refine hB.out.mono ?_); rintro e w1 ⟨rfl, rfl⟩)
      go_ret
      exact ⟨rfl, rfl⟩
  · have hib : inB many i k = false := decide_eq_false hin
    have hv : bitV many i k = 0 := by unfold bitV; rw [hib]; rfl
    have hab : hasO many cs i k = false := by unfold hasO; rw [hib, Bool.false_and]
    rw [hv] at hB
    rw [hab]
    have hB := Lib.hid hB
    clear H hv hab
    go_enter Try.func17, Try.ntmps17
    go_wp2_with (go_at_call 21; (with_reducible refine hB.out.mono ?_); rintro e w1 ⟨rfl, rfl⟩)
    go_ret
    exact ⟨rfl, rfl⟩
theorem ohas_none (i k : Int) (w : World) : Calls Try.prog 17 #[.pointer none, .int .i64 i, .int .i64 k] w fun e w' => e = .returned (.bool false) ∧ w' = w := by
  have hB := Lib.hid (bit_none i k w)
  go_enter Try.func17, Try.ntmps17
  go_wp2_with (go_at_call 21; (with_reducible refine hB.out.mono ?_); rintro e w1 ⟨rfl, rfl⟩)
  go_ret
  exact ⟨rfl, rfl⟩
theorem oadd_none (i k : Int) (w : World) : Calls Try.prog 7 #[.pointer none, .int .i64 i, .int .i64 k] w fun e w' => e = .returned (.bool false) ∧ w' = w := by
  have hB := Lib.hid (bit_none i k w)
  go_enter Try.func7, Try.ntmps7
  go_wp2_with (go_at_call 21; (with_reducible refine hB.out.mono ?_); rintro e w1 ⟨rfl, rfl⟩)
  go_ret
  exact ⟨rfl, rfl⟩
theorem opay_none (i : Int) (w : World) : Calls Try.prog 8 #[.pointer none, .int .i64 i] w fun e w' => e = .returned (.tuple #[.int .i64 0, .int .i64 0, .bool false]) ∧ w' = w := by
  go_enter Try.func8, Try.ntmps8
  go_wp2
  go_ret3
  exact ⟨rfl, rfl⟩
theorem olen_none (w : World) : Calls Try.prog 9 #[.pointer none] w fun e w' => e = .returned (.int .i64 0) ∧ w' = w := by
  go_enter Try.func9, Try.ntmps9
  go_wp2
  go_ret
  exact ⟨rfl, rfl⟩
theorem odrop_none (i : Int) (w : World) : Calls Try.prog 13 #[.pointer none, .int .i64 i] w fun e w' => e = .returned (.int .i64 0) ∧ w' = w := by
  go_enter Try.func13, Try.ntmps13
  go_wp2
  go_ret
  exact ⟨rfl, rfl⟩
theorem oclear_none (w : World) : Calls Try.prog 15 #[.pointer none] w fun e w' => e = .returned (.tuple #[]) ∧ w' = w := by
  go_enter Try.func15, Try.ntmps15
  go_wp2
  refine bodyPost_ret (results_none rfl _ _ _) rfl ?_
  exact ⟨rfl, rfl⟩
end Go.Proofs.Ytdaobfhkdbaklaa
