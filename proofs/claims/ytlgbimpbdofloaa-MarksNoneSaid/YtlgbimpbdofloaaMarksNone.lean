/-
  A set that is none.
-/
import Derived.Test.YtlgbimpbdofloaaMarksNext2
import Derived.Test.YtlgbimpbdofloaaMarksLaw
import Derived.WalkMore
namespace Go.Proofs.Ytlgbimpbdofloaa
open Go.RowKit
set_option linter.unusedVariables false
set_option linter.unusedSimpArgs false

theorem free_none (w : World) : Calls Try.prog 22 #[.pointer none] w fun e w' => e = .returned (.tuple #[.int .i64 0, .bool false]) ∧ w = w' := by
  have hmay := Lib.hid (fun i w => may_none i w)
  go_enter Try.func22, Try.ntmps22
  go_wp2
  go_step3
  go_wp2
  go_step3
  go_wp2
  refine wp_loop_rounds 1 ?_
  rw [rounds_succ]
  go_wp2_with (go_at_call 32; (with_reducible refine (hmay.out _ _).mono ?_); rintro e w1 ⟨rfl, rfl⟩)
  rw [Exit.noGoto_ret]
  go_ret2
  exact ⟨rfl, rfl⟩
theorem from1_none (F P : Nat) (f0 : Int) (y : Value) (w : World) (hF : w.cell? ⟨F, 0, none⟩ = some (.int .i64 f0)) (hP : w.cell? ⟨P, 0, none⟩ = some (.pointer none)) : Calls Try.prog 35 #[y, .pointer (some ⟨F, 0, none⟩), .pointer (some ⟨P, 0, none⟩)] w fun e w' => e = .returned (.tuple #[]) ∧ w = w' := by
  have hmay := Lib.hid (fun i w => may_none i w)
  go_enter Try.func35, Try.ntmps35
  go_wp2
  all_goals
    refine wp_loop_rounds 1 ?_
    rw [rounds_succ]
    go_wp2_with (go_at_call 32; (with_reducible refine (hmay.out _ _).mono ?_); rintro e w1 ⟨rfl, rfl⟩)
    go_end0
    exact ⟨rfl, rfl⟩
theorem all_none (most : Int) (w : World) : Calls Try.prog 13 #[.pointer none, .int .i64 most] w fun e w' => e = .returned (.slice none 0 0) ∧ Below w.heap.size w w' := by
  have hal := Lib.hid (fun w => alln_any none w)
  have hb : Below w.heap.size w ((((w.alloc (.cells #[.int .i64 most] 3)).alloc (.cells #[.slice none 0 0] 22)).alloc (.cells #[.pointer none] 24)).alloc (.cells #[.int .i64 0] 3)) := ((((Below.refl _ _).alloc (Nat.le_refl _) _).alloc (by simp) _).alloc (by simp; omega) _).alloc (by simp; omega) _
  have hF : ((((w.alloc (.cells #[.int .i64 most] 3)).alloc (.cells #[.slice none 0 0] 22)).alloc (.cells #[.pointer none] 24)).alloc (.cells #[.int .i64 0] 3)).cell? ⟨w.heap.size + 1 + 1 + 1, 0, none⟩ = some (.int .i64 0) := by simp [go_sem]
  have hP : ((((w.alloc (.cells #[.int .i64 most] 3)).alloc (.cells #[.slice none 0 0] 22)).alloc (.cells #[.pointer none] 24)).alloc (.cells #[.int .i64 0] 3)).cell? ⟨w.heap.size + 1 + 1, 0, none⟩ = some (.pointer none) := by simp [go_sem]
  have hfr := Lib.hid (fun y => from1_none _ _ 0 y _ hF hP)
  clear hF hP
  go_enter Try.func13, Try.ntmps13
  go_wp2_with (first | (go_at_call 29; (with_reducible refine (hal.out _).mono ?_); rintro e w1 ⟨rfl, rfl⟩) | (go_at_call 35; (with_reducible refine (hfr.out _).mono ?_); rintro e w1 ⟨rfl, rfl⟩))
  go_ret
  exact ⟨rfl, hb⟩
set_option maxHeartbeats 1600000 in
theorem walk_MarksNone (n : Int) (un : (Lit.int .i64 n).wf = true) {w : World} :
    Calls Try.prog 6 #[.int .i64 n] w fun e w' => e = .returned (.bool true) ∧ Below w.heap.size w w' := by
  have hbd := bounds_i64 un
  have hN := Lib.hid (fun w => next_none n w hbd)
  have hbd := Lib.hid hbd
  have he := bse ⟨#[]⟩
  go_enter Try.func6, Try.ntmps6
  go_wp2_with (first | (go_at_call 7; (with_reducible refine (works_any _).mono ?_); rintro e w1 ⟨rfl, hb1⟩) | (go_at_call 20; (with_reducible refine (hN.out _).mono ?_); rintro e w2 ⟨rfl, hb2⟩) | (go_at_call 22; (with_reducible refine (free_none _).mono ?_); rintro e w3 ⟨rfl, rfl⟩) | (go_at_call 9; (with_reducible refine (add_none _ _).mono ?_); rintro e w3 ⟨rfl, rfl⟩) | (go_at_call 19; (with_reducible refine (remove_none _ _).mono ?_); rintro e w3 ⟨rfl, rfl⟩) | (go_at_call 24; (with_reducible refine (has_none _ _).mono ?_); rintro e w3 ⟨rfl, rfl⟩) | (go_at_call 26; (with_reducible refine (len_none _).mono ?_); rintro e w3 ⟨rfl, rfl⟩) | (go_at_call 16; (with_reducible refine (many_none _).mono ?_); rintro e w3 ⟨rfl, rfl⟩) | (go_at_call 11; (with_reducible refine (bytes_none _).mono ?_); rintro e w3 ⟨rfl, rfl⟩) | (go_at_call 13; (with_reducible refine (all_none _ _).mono ?_); rintro e w4 ⟨rfl, hb4⟩))
  go_ret
  exact ⟨rfl, bt (bt hb1 hb2) hb4⟩
end Go.Proofs.Ytlgbimpbdofloaa
