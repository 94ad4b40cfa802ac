/-
  Walks over package vector and its reference (chapter 5).
-/
import Derived.Test.YtaddbljdheafaaaDoorRows
import Derived.Test.YtaddbljdheafaaaDoorMine
import Derived.WalkKit
import Derived.WalkSpells
import Derived.WalkLawsBesides
import Derived.Lib.Hide
import Derived.Deep.QuietTactic
import Derived.BigQuiet
import Derived.RegionTactic
import Derived.Deep.RegionHeld3
namespace Go.Proofs.YtaddbljdheafaaaDoor
open Go.RowKit
set_option linter.unusedVariables false
set_option linter.unusedSimpArgs false

/-- a vector, as a value -/
abbrev VV (a b : Int) : Value := .agg #[.int .i64 a, .int .i64 b]
def withinB (n m : Int) : Bool := decide (0 ≤ n ∧ n ≤ m)
def rightB (a b : Int) : Bool := decide (0 ≤ a ∧ a ≤ 1125899906842624 ∧ 0 ≤ b ∧ b ≤ 1125899906842624)
def coversB (a b c d : Int) : Bool := decide (c ≤ a ∧ d ≤ b)
def cmpZ (a b c d : Int) : Int := if coversB a b c d = true then (if coversB c d a b = true then 0 else 1) else if coversB c d a b = true then 2 else 3
def mx (a b : Int) : Int := if a < b then b else a

theorem within_any (n m : Int) (w : World) : Calls Tryd.prog 60 #[.int .i64 n, .int .i64 m] w fun e w' => e = .returned (.bool (withinB n m)) ∧ w = w' := by
  by_cases h1 : 0 ≤ n
  · have HF : Hid (decide (n ≤ m) = withinB n m) := by show _ = _; unfold withinB; simp [h1]
    go_enter Tryd.func60, Tryd.ntmps60
    go_wp2
    go_ret
    exact ⟨congrArg (fun x => Ending.returned (.bool x)) HF.out, rfl⟩
  · have HF : Hid (false = withinB n m) := by show _ = _; unfold withinB; simp [h1]
    go_enter Tryd.func60, Tryd.ntmps60
    go_wp2
    go_ret
    exact ⟨congrArg (fun x => Ending.returned (.bool x)) HF.out, rfl⟩
set_option maxHeartbeats 1600000 in
theorem right_any (a b : Int) (w : World) : Calls Tryd.prog 45 #[VV a b] w fun e w' => e = .returned (.bool (rightB a b)) ∧ Below w.heap.size w w' := by
  by_cases h1 : withinB a 1125899906842624 = true
  · have HF : Hid (withinB b 1125899906842624 = rightB a b) := by
      show _ = _; have := of_decide_eq_true h1; unfold withinB rightB; rw [Bool.eq_iff_iff, decide_eq_true_iff, decide_eq_true_iff]; omega
    go_enter Tryd.func45, Tryd.ntmps45
    go_wp2_with (go_at_call 60; (with_reducible refine (within_any _ _ _).mono ?_); rintro e wx ⟨rfl, rfl⟩)
    go_ret
    exact ⟨congrArg (fun x => Ending.returned (.bool x)) HF.out, (Below.refl _ _).alloc (Nat.le_refl _) _⟩
  · have h1' : withinB a 1125899906842624 = false := by simpa using h1
    have HF : Hid (false = rightB a b) := by
      show _ = _; have := of_decide_eq_false h1'; unfold rightB; symm; rw [decide_eq_false_iff_not]; omega
    go_enter Tryd.func45, Tryd.ntmps45
    go_wp2_with (go_at_call 60; (with_reducible refine (within_any _ _ _).mono ?_); rintro e wx ⟨rfl, rfl⟩)
    go_ret
    exact ⟨congrArg (fun x => Ending.returned (.bool x)) HF.out, (Below.refl _ _).alloc (Nat.le_refl _) _⟩
set_option maxHeartbeats 1600000 in
theorem rright_any (a b : Int) (w : World) : Calls Tryd.prog 11 #[VV a b] w fun e w' => e = .returned (.bool (rightB a b)) ∧ Below w.heap.size w w' := by
  by_cases h1 : 0 ≤ a
  · by_cases h2 : a ≤ 1125899906842624
    · by_cases h3 : 0 ≤ b
      · have HF : Hid (decide (b ≤ 1125899906842624) = rightB a b) := by show _ = _; unfold rightB; simp [h1, h2, h3]
        go_enter Tryd.func11, Tryd.ntmps11
        go_wp2
        go_ret
        exact ⟨congrArg (fun x => Ending.returned (.bool x)) HF.out, (Below.refl _ _).alloc (Nat.le_refl _) _⟩
      · have HF : Hid (false = rightB a b) := by show _ = _; unfold rightB; simp [h3]
        go_enter Tryd.func11, Tryd.ntmps11
        go_wp2
        go_ret
        exact ⟨congrArg (fun x => Ending.returned (.bool x)) HF.out, (Below.refl _ _).alloc (Nat.le_refl _) _⟩
    · have HF : Hid (false = rightB a b) := by show _ = _; unfold rightB; simp [h2]
      go_enter Tryd.func11, Tryd.ntmps11
      go_wp2
      go_ret
      exact ⟨congrArg (fun x => Ending.returned (.bool x)) HF.out, (Below.refl _ _).alloc (Nat.le_refl _) _⟩
  · have HF : Hid (false = rightB a b) := by show _ = _; unfold rightB; simp [h1]
    go_enter Tryd.func11, Tryd.ntmps11
    go_wp2
    go_ret
    exact ⟨congrArg (fun x => Ending.returned (.bool x)) HF.out, (Below.refl _ _).alloc (Nat.le_refl _) _⟩
/-- four cells -/
theorem held4 {w : World} {a b c d : Int} (T : TypeId) :
    ((w.alloc (.cells #[.int .i64 a, .int .i64 b] T)).alloc (.cells #[.int .i64 c, .int .i64 d] T)).cell? ⟨w.heap.size, 0, none⟩ = some (.int .i64 a) ∧
    ((w.alloc (.cells #[.int .i64 a, .int .i64 b] T)).alloc (.cells #[.int .i64 c, .int .i64 d] T)).cell? ⟨w.heap.size, 1, none⟩ = some (.int .i64 b) ∧
    ((w.alloc (.cells #[.int .i64 a, .int .i64 b] T)).alloc (.cells #[.int .i64 c, .int .i64 d] T)).cell? ⟨w.heap.size + 1, 0, none⟩ = some (.int .i64 c) ∧
    ((w.alloc (.cells #[.int .i64 a, .int .i64 b] T)).alloc (.cells #[.int .i64 c, .int .i64 d] T)).cell? ⟨w.heap.size + 1, 1, none⟩ = some (.int .i64 d) := by
  refine ⟨?_, ?_, ?_, ?_⟩ <;> simp [go_sem]

def atZ (a b n : Int) : Int := if n = 0 then a else if n = 1 then b else 0
/-! ### a vector that comes further -/
def bumpOk (a b node boot : Int) : Bool := decide (node = 0 ∨ node = 1) && rightB a b && withinB boot 16777216
def bumpN (a b node boot : Int) : Int := mx (atZ a b node) (boot * 16777216) + 1
def bumpE (a b node boot : Int) : Int := if bumpOk a b node boot = true then (if 1125899906842624 < bumpN a b node boot then 17 else 0) else 3
def bumpA (a b node boot : Int) : Int := if bumpE a b node boot = 0 then (if node = 0 then bumpN a b node boot else a) else 0
def bumpB (a b node boot : Int) : Int := if bumpE a b node boot = 0 then (if node = 0 then b else bumpN a b node boot) else 0
theorem free4 {w : World} {a b c d : Int} (T : TypeId) (j : Nat) :
    ((w.alloc (.cells #[.int .i64 a, .int .i64 b] T)).alloc (.cells #[.int .i64 c, .int .i64 d] T)).frozen? ⟨w.heap.size, j, none⟩ = false ∧
    ((w.alloc (.cells #[.int .i64 a, .int .i64 b] T)).alloc (.cells #[.int .i64 c, .int .i64 d] T)).frozen? ⟨w.heap.size + 1, j, none⟩ = false := by
  refine ⟨?_, ?_⟩ <;> simp [go_sem]
theorem bump_vals (a b node boot : Int) (h : node = 0 ∨ node = 1) (hr : rightB a b = true) (hw : withinB boot 16777216 = true) : bumpE a b node boot = if 1125899906842624 < bumpN a b node boot then 17 else 0 := by
  unfold bumpE bumpOk
  rw [hr, hw, decide_eq_true h]; rfl
theorem bump_bad (a b node boot : Int) (h : ¬ (node = 0 ∨ node = 1) ∨ rightB a b = false ∨ withinB boot 16777216 = false) : bumpA a b node boot = 0 ∧ bumpB a b node boot = 0 ∧ bumpE a b node boot = 3 := by
  have e : bumpE a b node boot = 3 := by
    unfold bumpE
    rw [if_neg]
    unfold bumpOk
    rcases h with h | h | h
    · rw [decide_eq_false h]; simp
    · rw [h]; simp
    · rw [h]; simp
  refine ⟨?_, ?_, e⟩
  · unfold bumpA; rw [e, if_neg (by decide)]
  · unfold bumpB; rw [e, if_neg (by decide)]
end Go.Proofs.YtaddbljdheafaaaDoor
