/-
  Commands (chapter 33): the walk of the small functions.
-/
import Derived.Test.YtkcnpahnhmcegaaConPlain
import Derived.Test.YtkcnpahnhmcegaaCountHex5
import Derived.Test.YtkcnpahnhmcegaaCountRead4
import Derived.Test.YtkcnpahnhmcegaaCountHex2
import Derived.Test.YtkcnpahnhmcegaaWords3
import Derived.BigQuiet
import Derived.Handy
namespace Go.Proofs.Ytkcnpahnhmcegaa
open Go.RowKit
set_option linter.unusedVariables false
set_option linter.unusedSimpArgs false

def cmdV (c : Cmd) : Value := .agg #[.int .i64 c.k, .int .i64 c.e, .int .i64 c.sd, .string c.d]
def shV (k : Int) : Value := .agg #[.string (nameK k), .bool (hE k), .bool (hS k), .bool (hB k)]
theorem notK {k : Int} (h : inK k = false) : (k == 1) = false ∧ (k == 2) = false ∧ (k == 3) = false ∧ (k == 4) = false ∧ (k == 5) = false ∧ (k == 6) = false ∧ (k == 7) = false ∧ (k == 8) = false ∧ (k == 9) = false ∧ (k == 10) = false := by
  have h := of_decide_eq_false h
  refine ⟨?_, ?_, ?_, ?_, ?_, ?_, ?_, ?_, ?_, ?_⟩ <;> (rw [beq_eq_false_iff_ne]; omega)
theorem shV_not {k : Int} (h : inK k = false) : shV k = .agg #[.string ⟨#[]⟩, .bool false, .bool false, .bool false] := by
  have h := of_decide_eq_false h
  unfold shV nameK hE hS hB
  rw [if_neg (by omega), if_neg (by omega), if_neg (by omega), if_neg (by omega), if_neg (by omega), if_neg (by omega), if_neg (by omega), if_neg (by omega), if_neg (by omega), if_neg (by omega)]
  rw [decide_eq_false (by omega), decide_eq_false (by omega), decide_eq_false (by omega)]
theorem of_any (k : Int) (w : World) : Calls Try.prog 17 #[.int .i64 k] w fun e w' => e = .returned (.tuple #[shV k, .bool (inK k)]) ∧ Below w.heap.size w w' := by
  have hB : ∀ a, Below w.heap.size w (w.alloc (.cells a 37)) := fun a => (Below.refl _ _).alloc (Nat.le_refl _) _
  have hz : ∀ w, (zeroValue 37).run Try.prog w = .ok (.agg #[.string ⟨#[]⟩, .bool false, .bool false, .bool false]) w := fun _ => by kernel_rfl
  have hB := Lib.hid hB
  cases hk : inK k with
  | true =>
    rcases inK_cases hk with rfl | rfl | rfl | rfl | rfl | rfl | rfl | rfl | rfl | rfl
    all_goals
      clear hk
      go_enter Try.func17, Try.ntmps17
      go_wp2
      go_returns
      first | exact ⟨rfl, hB.out _⟩ | exact ⟨trivial, hB.out _⟩
  | false =>
    obtain ⟨d1, d2, d3, d4, d5, d6, d7, d8, d9, d10⟩ := notK hk
    rw [shV_not hk]
    clear hk
    go_enter Try.func17, Try.ntmps17
    go_wp2
    go_returns
    first | exact ⟨rfl, hB.out _⟩ | exact ⟨trivial, hB.out _⟩
theorem emp_iff0 (s : ByteArray) : (s.toList == (⟨#[]⟩ : ByteArray).toList) = decide (s.size = 0) := by
  have e : (⟨#[]⟩ : ByteArray).toList = [] := ba_list []
  rw [e]
  by_cases h : s.size = 0
  · rw [decide_eq_true h, emp_eq h, e]; rfl
  · rw [decide_eq_false h]
    rw [beq_eq_false_iff_ne]
    intro e2
    have := congrArg List.length e2
    rw [ByteArray.toList_eq, data_len] at this
    exact h this
theorem emp_iff (s : ByteArray) : s.toList.isEmpty = decide (s.size = 0) := by
  rw [← emp_iff0, show (⟨#[]⟩ : ByteArray).toList = [] from ba_list []]
  cases s.toList <;> rfl
theorem bytes_any33 (s : ByteArray) (w : World) (hs : s.size ≤ 70368744177664) : Calls Try.prog 15 #[.string s] w fun e w' => e = .returned (.string (bytS s)) ∧ Below w.heap.size w w' := by
  have hH := Lib.hid (fun w => hex_any s w hs)
  have h0 := emp_iff s
  unfold bytS
  by_cases hz : s.size = 0
  · rw [if_pos hz]
    rw [decide_eq_true hz] at h0
    clear hz
    go_enter Try.func15, Try.ntmps15
    go_wp2
    go_ret
    exact ⟨rfl, Below.refl _ _⟩
  · rw [if_neg hz]
    rw [decide_eq_false hz] at h0
    clear hz
    go_enter Try.func15, Try.ntmps15
    go_wp2_with (go_at_call 30; (with_reducible refine (hH.out _).mono ?_); rintro e w1 ⟨rfl, hb1⟩)
    go_ret
    exact ⟨rfl, hb1⟩
theorem rbytes_any33 (s : ByteArray) (w : World) (hs : s.size ≤ 70368744177664) : Calls Try.prog 16 #[.string s] w fun e w' => e = .returned (.string (bytS s)) ∧ Below w.heap.size w w' := by
  have hH := Lib.hid (fun w => rhex_any s w hs)
  have h0 := emp_iff s
  unfold bytS
  by_cases hz : s.size = 0
  · rw [if_pos hz]
    rw [decide_eq_true hz] at h0
    clear hz
    go_enter Try.func16, Try.ntmps16
    go_wp2
    go_ret
    exact ⟨rfl, Below.refl _ _⟩
  · rw [if_neg hz]
    rw [decide_eq_false hz] at h0
    clear hz
    go_enter Try.func16, Try.ntmps16
    go_wp2_with (go_at_call 31; (with_reducible refine (hH.out _).mono ?_); rintro e w1 ⟨rfl, hb1⟩)
    go_ret
    exact ⟨rfl, hb1⟩
theorem dash_l : (⟨#[45]⟩ : ByteArray).toList = [45] := ba_list [45]
theorem unbytes_any (s : ByteArray) (w : World) (hs : s.size ≤ 140737488351232) : Calls Try.prog 13 #[.string s] w fun e w' => e = .returned (.tuple #[.string (ubS s), .int .i64 (ubE s)]) ∧ Below w.heap.size w w' := by
  have hH := Lib.hid (fun w => unhex_any s w hs)
  have h0 := emp_iff s
  have hd : (s.toList == [45]) = decide (s.toList = [45]) := Bool.beq_eq_decide_eq _ _
  unfold ubS ubE
  by_cases h1 : s.toList = [45]
  · rw [if_pos h1, if_pos h1]
    rw [decide_eq_true h1] at hd
    clear h1 h0
    go_enter Try.func13, Try.ntmps13
    go_wp2
    go_ret2
    exact ⟨rfl, Below.refl _ _⟩
  · rw [if_neg h1, if_neg h1]
    rw [decide_eq_false h1] at hd
    clear h1
    by_cases hz : s.size = 0
    · rw [if_pos hz, if_pos hz]
      rw [decide_eq_true hz] at h0
      clear hz
      go_enter Try.func13, Try.ntmps13
      go_wp2
      go_ret2
      exact ⟨rfl, Below.refl _ _⟩
    · rw [if_neg hz, if_neg hz]
      rw [decide_eq_false hz] at h0
      clear hz
      go_enter Try.func13, Try.ntmps13
      go_wp2_with (go_at_call 28; (with_reducible refine (hH.out _).mono ?_); rintro e w1 ⟨rfl, hb1⟩)
      go_ret2
      exact ⟨rfl, hb1⟩
theorem runbytes_any (s : ByteArray) (w : World) (hs : s.size ≤ 140737488351232) : Calls Try.prog 14 #[.string s] w fun e w' => e = .returned (.tuple #[.string (ubS s), .int .i64 (ubE s)]) ∧ Below w.heap.size w w' := by
  have hH := Lib.hid (fun w => runhex_any s w hs)
  have h0 := emp_iff s
  have hd : (s.toList == [45]) = decide (s.toList = [45]) := Bool.beq_eq_decide_eq _ _
  unfold ubS ubE
  by_cases h1 : s.toList = [45]
  · rw [if_pos h1, if_pos h1]
    rw [decide_eq_true h1] at hd
    clear h1 h0
    go_enter Try.func14, Try.ntmps14
    go_wp2
    go_ret2
    exact ⟨rfl, Below.refl _ _⟩
  · rw [if_neg h1, if_neg h1]
    rw [decide_eq_false h1] at hd
    clear h1
    by_cases hz : s.size = 0
    · rw [if_pos hz, if_pos hz]
      rw [decide_eq_true hz] at h0
      clear hz
      go_enter Try.func14, Try.ntmps14
      go_wp2
      go_ret2
      exact ⟨rfl, Below.refl _ _⟩
    · rw [if_neg hz, if_neg hz]
      rw [decide_eq_false hz] at h0
      clear hz
      go_enter Try.func14, Try.ntmps14
      go_wp2_with (go_at_call 29; (with_reducible refine (hH.out _).mono ?_); rintro e w1 ⟨rfl, hb1⟩)
      go_ret2
      exact ⟨rfl, hb1⟩
theorem within_any (n m : Int) (w : World) : Calls Try.prog 23 #[.int .i64 n, .int .i64 m] w fun e w' => e = .returned (.bool (decide (0 ≤ n ∧ n ≤ m))) ∧ w = w' := by
  have hE0 : ∀ b : Bool, b = decide (0 ≤ n ∧ n ≤ m) → (fun (e : Ending) (w' : World) => e = .returned (.bool (decide (0 ≤ n ∧ n ≤ m))) ∧ w = w') (.returned (.bool b)) w := by
    rintro b rfl
    exact ⟨rfl, rfl⟩
  generalize (fun (e : Ending) (w' : World) => e = .returned (.bool (decide (0 ≤ n ∧ n ≤ m))) ∧ w = w') = Pst at *
  have hE := Lib.hid hE0
  clear hE0
  by_cases h1 : 0 ≤ n
  · have hvx : decide (n ≤ m) = decide (0 ≤ n ∧ n ≤ m) := by rw [decide_eq_decide]; exact ⟨fun h => ⟨h1, h⟩, fun h => h.2⟩
    have hv := Lib.hid hvx
    clear hvx
    go_enter Try.func23, Try.ntmps23
    go_wp2
    exact hE.out _ hv.out
  · have hvx : false = decide (0 ≤ n ∧ n ≤ m) := by rw [decide_eq_false (fun h => h1 h.1)]
    have hv := Lib.hid hvx
    clear hvx
    go_enter Try.func23, Try.ntmps23
    go_wp2
    exact hE.out _ hv.out
set_option maxHeartbeats 1600000 in
theorem rname_any (k : Int) (w : World) : Calls Try.prog 21 #[.int .i64 k] w fun e w' => e = .returned (.string (nameK k)) ∧ Below w.heap.size w w' := by
  have hB : ∀ a, Below w.heap.size w (w.alloc (.cells a 9)) := fun a => (Below.refl _ _).alloc (Nat.le_refl _) _
  have hB := Lib.hid hB
  cases hk : inK k with
  | true =>
    rcases inK_cases hk with rfl | rfl | rfl | rfl | rfl | rfl | rfl | rfl | rfl | rfl
    all_goals
      clear hk
      go_enter Try.func21, Try.ntmps21
      go_wp2
      go_ret
      exact ⟨rfl, hB.out _⟩
  | false =>
    have e : nameK k = ⟨#[]⟩ := by
      have h := of_decide_eq_false hk
      unfold nameK
      rw [if_neg (by omega), if_neg (by omega), if_neg (by omega), if_neg (by omega), if_neg (by omega), if_neg (by omega), if_neg (by omega), if_neg (by omega), if_neg (by omega), if_neg (by omega)]
    rw [e]
    have h := of_decide_eq_false hk
    by_cases h1 : k < 1
    · have g1 : decide (k < 1) = true := decide_eq_true h1
      clear hk e h h1
      go_enter Try.func21, Try.ntmps21
      go_wp2
      go_ret
      exact ⟨rfl, hB.out _⟩
    · have g1 : decide (k < 1) = false := decide_eq_false h1
      have g2 : decide (11 ≤ k) = true := decide_eq_true (by omega)
      clear hk e h h1
      go_enter Try.func21, Try.ntmps21
      go_wp2
      go_ret
      exact ⟨rfl, hB.out _⟩
def hasV (k : Int) : Value := .agg #[.bool (hE k), .bool (hS k), .bool (hB k)]
theorem rhas_any33 (k : Int) (w : World) : Calls Try.prog 20 #[.int .i64 k] w fun e w' => e = .returned (hasV k) ∧ Below w.heap.size w w' := by
  have hAl : ∀ a, Below w.heap.size w (w.alloc (.cells a 45)) := fun a => (Below.refl _ _).alloc (Nat.le_refl _) _
  have hz : ∀ w, (zeroValue 45).run Try.prog w = .ok (.agg #[.bool false, .bool false, .bool false]) w := fun _ => by kernel_rfl
  have hAl := Lib.hid hAl
  by_cases h1 : k = 2 ∨ k = 3 ∨ k = 4 ∨ k = 7 ∨ k = 8
  · rcases h1 with rfl | rfl | rfl | rfl | rfl
    all_goals
      go_enter Try.func20, Try.ntmps20
      go_wp2
      go_returns
      first | exact ⟨rfl, hAl.out _⟩ | exact ⟨trivial, hAl.out _⟩
  · have e : hasV k = .agg #[.bool false, .bool false, .bool false] := by
      unfold hasV hE hS hB
      rw [decide_eq_false h1, decide_eq_false (by omega), decide_eq_false (by omega)]
    rw [e]
    have d2 : (k == 2) = false := by rw [beq_eq_false_iff_ne]; omega
    have d3 : (k == 3) = false := by rw [beq_eq_false_iff_ne]; omega
    have d4 : (k == 4) = false := by rw [beq_eq_false_iff_ne]; omega
    have d7 : (k == 7) = false := by rw [beq_eq_false_iff_ne]; omega
    have d8 : (k == 8) = false := by rw [beq_eq_false_iff_ne]; omega
    clear h1 e
    go_enter Try.func20, Try.ntmps20
    go_wp2
    go_returns
    first | exact ⟨rfl, hAl.out _⟩ | exact ⟨trivial, hAl.out _⟩
end Go.Proofs.Ytkcnpahnhmcegaa
