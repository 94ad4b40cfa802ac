/-
  Walks over package vector and its reference (chapter 5).
-/
import Derived.Test.YtingeahkndingaaRows
import Derived.Test.YtingeahkndingaaMine
import Derived.WalkKit
import Derived.WalkSpells
import Derived.WalkLawsBesides
import Derived.Lib.Hide
import Derived.Deep.QuietTactic
import Derived.BigQuiet
import Derived.RegionTactic
import Derived.Deep.RegionHeld3
namespace Go.Proofs.Ytingeahkndingaa
open Go.RowKit
set_option linter.unusedVariables false
set_option linter.unusedSimpArgs false

/-- a vector, as a value -/
abbrev VV (a b : Int) : Value := .agg #[.int .i64 a, .int .i64 b]
def withinB (n m : Int) : Bool := decide (0 ≤ n ∧ n ≤ m)
def rightB (a b : Int) : Bool := decide (0 ≤ a ∧ a ≤ 1125899906842624 ∧ 0 ≤ b ∧ b ≤ 1125899906842624)
def coversB (a b c d : Int) : Bool := decide (c ≤ a ∧ d ≤ b)
def cmpZ (a b c d : Int) : Int := if coversB a b c d = true then (if coversB c d a b = true then 0 else 1) else if coversB c d a b = true then 2 else 3
def mx (a b : Int) : Int := if a < b then b else a

set_option maxHeartbeats 800000 in
theorem covers_any (a b c d : Int) (w : World) : Calls Try.prog 44 #[VV a b, VV c d] w fun e w' => e = .returned (.bool (coversB a b c d)) ∧ Below w.heap.size w w' := by
  by_cases h1 : c ≤ a
  · have HF : Hid (decide (d ≤ b) = coversB a b c d) := by show _ = _; unfold coversB; simp [h1]
    go_enter Try.func44, Try.ntmps44
    go_wp2
    go_ret
    exact ⟨congrArg (fun x => Ending.returned (.bool x)) HF.out, ((Below.refl _ _).alloc (Nat.le_refl _) _).alloc (by simp) _⟩
  · have HF : Hid (false = coversB a b c d) := by show _ = _; unfold coversB; simp [h1]
    go_enter Try.func44, Try.ntmps44
    go_wp2
    go_ret
    exact ⟨congrArg (fun x => Ending.returned (.bool x)) HF.out, ((Below.refl _ _).alloc (Nat.le_refl _) _).alloc (by simp) _⟩
set_option maxHeartbeats 800000 in
theorem rcovers_any (a b c d : Int) (w : World) : Calls Try.prog 30 #[VV a b, VV c d] w fun e w' => e = .returned (.bool (coversB a b c d)) ∧ Below w.heap.size w w' := by
  by_cases h1 : c ≤ a
  · have HF : Hid (decide (d ≤ b) = coversB a b c d) := by show _ = _; unfold coversB; simp [h1]
    go_enter Try.func30, Try.ntmps30
    go_wp2
    go_ret
    exact ⟨congrArg (fun x => Ending.returned (.bool x)) HF.out, ((Below.refl _ _).alloc (Nat.le_refl _) _).alloc (by simp) _⟩
  · have HF : Hid (false = coversB a b c d) := by show _ = _; unfold coversB; simp [h1]
    go_enter Try.func30, Try.ntmps30
    go_wp2
    go_ret
    exact ⟨congrArg (fun x => Ending.returned (.bool x)) HF.out, ((Below.refl _ _).alloc (Nat.le_refl _) _).alloc (by simp) _⟩
set_option maxHeartbeats 1600000 in
theorem join_any (a b c d : Int) (w : World) : Calls Try.prog 27 #[VV a b, VV c d] w fun e w' => e = .returned (VV (mx a c) (mx b d)) ∧ Below w.heap.size w w' := by
  have hx : ∀ x y : Int, x < y → mx x y = y := fun x y h => if_pos h
  have hy : ∀ x y : Int, ¬ x < y → mx x y = x := fun x y h => if_neg h
  by_cases h1 : a < c
  · by_cases h2 : b < d
    · rw [hx _ _ h1, hx _ _ h2]
      clear hx hy
      go_enter Try.func27, Try.ntmps27
      go_wp2
      exact bodyPost_ret (v := VV c d) (by simp [results, Try.results27, go_sem]) rfl ⟨rfl, (((Below.refl _ _).alloc (Nat.le_refl _) _).alloc (by simp) _).alloc (by simp; omega) _⟩
    · rw [hx _ _ h1, hy _ _ h2]
      clear hx hy
      go_enter Try.func27, Try.ntmps27
      go_wp2
      exact bodyPost_ret (v := VV c b) (by simp [results, Try.results27, go_sem]) rfl ⟨rfl, (((Below.refl _ _).alloc (Nat.le_refl _) _).alloc (by simp) _).alloc (by simp; omega) _⟩
  · by_cases h2 : b < d
    · rw [hy _ _ h1, hx _ _ h2]
      clear hx hy
      go_enter Try.func27, Try.ntmps27
      go_wp2
      exact bodyPost_ret (v := VV a d) (by simp [results, Try.results27, go_sem]) rfl ⟨rfl, (((Below.refl _ _).alloc (Nat.le_refl _) _).alloc (by simp) _).alloc (by simp; omega) _⟩
    · rw [hy _ _ h1, hy _ _ h2]
      clear hx hy
      go_enter Try.func27, Try.ntmps27
      go_wp2
      exact bodyPost_ret (v := VV a b) (by simp [results, Try.results27, go_sem]) rfl ⟨rfl, (((Below.refl _ _).alloc (Nat.le_refl _) _).alloc (by simp) _).alloc (by simp; omega) _⟩
set_option maxHeartbeats 1600000 in
theorem rjoin_any (a b c d : Int) (w : World) : Calls Try.prog 12 #[VV a b, VV c d] w fun e w' => e = .returned (VV (mx a c) (mx b d)) ∧ Below w.heap.size w w' := by
  have hx : ∀ x y : Int, x < y → mx x y = y := fun x y h => if_pos h
  have hy : ∀ x y : Int, ¬ x < y → mx x y = x := fun x y h => if_neg h
  by_cases h1 : a < c
  · by_cases h2 : b < d
    · rw [hx _ _ h1, hx _ _ h2]
      clear hx hy
      go_enter Try.func12, Try.ntmps12
      go_wp2
      exact bodyPost_ret (v := VV c d) (by simp [results, Try.results12, go_sem]) rfl ⟨rfl, (((Below.refl _ _).alloc (Nat.le_refl _) _).alloc (by simp) _).alloc (by simp; omega) _⟩
    · rw [hx _ _ h1, hy _ _ h2]
      clear hx hy
      go_enter Try.func12, Try.ntmps12
      go_wp2
      exact bodyPost_ret (v := VV c b) (by simp [results, Try.results12, go_sem]) rfl ⟨rfl, (((Below.refl _ _).alloc (Nat.le_refl _) _).alloc (by simp) _).alloc (by simp; omega) _⟩
  · by_cases h2 : b < d
    · rw [hy _ _ h1, hx _ _ h2]
      clear hx hy
      go_enter Try.func12, Try.ntmps12
      go_wp2
      exact bodyPost_ret (v := VV a d) (by simp [results, Try.results12, go_sem]) rfl ⟨rfl, (((Below.refl _ _).alloc (Nat.le_refl _) _).alloc (by simp) _).alloc (by simp; omega) _⟩
    · rw [hy _ _ h1, hy _ _ h2]
      clear hx hy
      go_enter Try.func12, Try.ntmps12
      go_wp2
      exact bodyPost_ret (v := VV a b) (by simp [results, Try.results12, go_sem]) rfl ⟨rfl, (((Below.refl _ _).alloc (Nat.le_refl _) _).alloc (by simp) _).alloc (by simp; omega) _⟩
theorem within_any (n m : Int) (w : World) : Calls Try.prog 58 #[.int .i64 n, .int .i64 m] w fun e w' => e = .returned (.bool (withinB n m)) ∧ w = w' := by
  by_cases h1 : 0 ≤ n
  · have HF : Hid (decide (n ≤ m) = withinB n m) := by show _ = _; unfold withinB; simp [h1]
    go_enter Try.func58, Try.ntmps58
    go_wp2
    go_ret
    exact ⟨congrArg (fun x => Ending.returned (.bool x)) HF.out, rfl⟩
  · have HF : Hid (false = withinB n m) := by show _ = _; unfold withinB; simp [h1]
    go_enter Try.func58, Try.ntmps58
    go_wp2
    go_ret
    exact ⟨congrArg (fun x => Ending.returned (.bool x)) HF.out, rfl⟩
set_option maxHeartbeats 1600000 in
theorem right_any (a b : Int) (w : World) : Calls Try.prog 57 #[VV a b] w fun e w' => e = .returned (.bool (rightB a b)) ∧ Below w.heap.size w w' := by
  by_cases h1 : withinB a 1125899906842624 = true
  · have HF : Hid (withinB b 1125899906842624 = rightB a b) := by
      show _ = _; have := of_decide_eq_true h1; unfold withinB rightB; rw [Bool.eq_iff_iff, decide_eq_true_iff, decide_eq_true_iff]; omega
    go_enter Try.func57, Try.ntmps57
    go_wp2_with (go_at_call 58; (with_reducible refine (within_any _ _ _).mono ?_); rintro e wx ⟨rfl, rfl⟩)
    go_ret
    exact ⟨congrArg (fun x => Ending.returned (.bool x)) HF.out, (Below.refl _ _).alloc (Nat.le_refl _) _⟩
  · have h1' : withinB a 1125899906842624 = false := by simpa using h1
    have HF : Hid (false = rightB a b) := by
      show _ = _; have := of_decide_eq_false h1'; unfold rightB; symm; rw [decide_eq_false_iff_not]; omega
    go_enter Try.func57, Try.ntmps57
    go_wp2_with (go_at_call 58; (with_reducible refine (within_any _ _ _).mono ?_); rintro e wx ⟨rfl, rfl⟩)
    go_ret
    exact ⟨congrArg (fun x => Ending.returned (.bool x)) HF.out, (Below.refl _ _).alloc (Nat.le_refl _) _⟩
set_option maxHeartbeats 1600000 in
theorem rright_any (a b : Int) (w : World) : Calls Try.prog 24 #[VV a b] w fun e w' => e = .returned (.bool (rightB a b)) ∧ Below w.heap.size w w' := by
  by_cases h1 : 0 ≤ a
  · by_cases h2 : a ≤ 1125899906842624
    · by_cases h3 : 0 ≤ b
      · have HF : Hid (decide (b ≤ 1125899906842624) = rightB a b) := by show _ = _; unfold rightB; simp [h1, h2, h3]
        go_enter Try.func24, Try.ntmps24
        go_wp2
        go_ret
        exact ⟨congrArg (fun x => Ending.returned (.bool x)) HF.out, (Below.refl _ _).alloc (Nat.le_refl _) _⟩
      · have HF : Hid (false = rightB a b) := by show _ = _; unfold rightB; simp [h3]
        go_enter Try.func24, Try.ntmps24
        go_wp2
        go_ret
        exact ⟨congrArg (fun x => Ending.returned (.bool x)) HF.out, (Below.refl _ _).alloc (Nat.le_refl _) _⟩
    · have HF : Hid (false = rightB a b) := by show _ = _; unfold rightB; simp [h2]
      go_enter Try.func24, Try.ntmps24
      go_wp2
      go_ret
      exact ⟨congrArg (fun x => Ending.returned (.bool x)) HF.out, (Below.refl _ _).alloc (Nat.le_refl _) _⟩
  · have HF : Hid (false = rightB a b) := by show _ = _; unfold rightB; simp [h1]
    go_enter Try.func24, Try.ntmps24
    go_wp2
    go_ret
    exact ⟨congrArg (fun x => Ending.returned (.bool x)) HF.out, (Below.refl _ _).alloc (Nat.le_refl _) _⟩
/-- four cells -/
theorem held4 {w : World} {a b c d : Int} (T : TypeId) :
    ((w.alloc (.cells #[.int .i64 a, .int .i64 b] T)).alloc (.cells #[.int .i64 c, .int .i64 d] T)).cell? ⟨w.heap.size, 0, none⟩ = some (.int .i64 a) ∧
    ((w.alloc (.cells #[.int .i64 a, .int .i64 b] T)).alloc (.cells #[.int .i64 c, .int .i64 d] T)).cell? ⟨w.heap.size, 1, none⟩ = some (.int .i64 b) ∧
    ((w.alloc (.cells #[.int .i64 a, .int .i64 b] T)).alloc (.cells #[.int .i64 c, .int .i64 d] T)).cell? ⟨w.heap.size + 1, 0, none⟩ = some (.int .i64 c) ∧
    ((w.alloc (.cells #[.int .i64 a, .int .i64 b] T)).alloc (.cells #[.int .i64 c, .int .i64 d] T)).cell? ⟨w.heap.size + 1, 1, none⟩ = some (.int .i64 d) := by
  refine ⟨?_, ?_, ?_, ?_⟩ <;> simp [go_sem]
set_option maxHeartbeats 6400000 in
theorem compare_any (a b c d : Int) (w : World) : Calls Try.prog 26 #[VV a b, VV c d] w fun e w' => e = .returned (.int .i64 (cmpZ a b c d)) ∧ Below w.heap.size w w' := by
  obtain ⟨c1, c2, c3, c4⟩ := held4 (w := w) (a := a) (b := b) (c := c) (d := d) 23
  have HB : Below w.heap.size w ((w.alloc (.cells #[.int .i64 a, .int .i64 b] 23)).alloc (.cells #[.int .i64 c, .int .i64 d] 23)) := ((Below.refl _ _).alloc (Nat.le_refl _) _).alloc (by simp) _
  cases hA : coversB a b c d
  · cases hB : coversB c d a b
    · have HF : Hid ((3 : Int) = cmpZ a b c d) := by show _ = _; unfold cmpZ; rw [hA, hB]; rfl
      go_enter Try.func26, Try.ntmps26
      go_wp2_with fail
      generalize (w.alloc (.cells #[.int .i64 a, .int .i64 b] 23)).alloc (.cells #[.int .i64 c, .int .i64 d] 23) = W at *
      replace HB := HB.drew
      go_region_held3 (fun w' => w'.cell? ⟨w.heap.size, 0, none⟩ = some (.int .i64 a) ∧ w'.cell? ⟨w.heap.size, 1, none⟩ = some (.int .i64 b) ∧ w'.cell? ⟨w.heap.size + 1, 0, none⟩ = some (.int .i64 c) ∧ w'.cell? ⟨w.heap.size + 1, 1, none⟩ = some (.int .i64 d)) (first | exact ⟨c1, c2, c3, c4⟩) (first | (go_at_call 44; (with_reducible refine (covers_any _ _ _ _ _).mono ?_); rintro e w5 ⟨rfl, hb5⟩; replace c1 := bkeep hb5 c1; replace c2 := bkeep hb5 c2; replace c3 := bkeep hb5 c3; replace c4 := bkeep hb5 c4; replace HB := bt HB hb5))
      go_wp2
      go_ret
      exact ⟨congrArg (fun x => Ending.returned (.int .i64 x)) HF.out, HB⟩
    · have HF : Hid ((2 : Int) = cmpZ a b c d) := by show _ = _; unfold cmpZ; rw [hA, hB]; rfl
      go_enter Try.func26, Try.ntmps26
      go_wp2_with fail
      generalize (w.alloc (.cells #[.int .i64 a, .int .i64 b] 23)).alloc (.cells #[.int .i64 c, .int .i64 d] 23) = W at *
      replace HB := HB.drew
      go_region_held3 (fun w' => w'.cell? ⟨w.heap.size, 0, none⟩ = some (.int .i64 a) ∧ w'.cell? ⟨w.heap.size, 1, none⟩ = some (.int .i64 b) ∧ w'.cell? ⟨w.heap.size + 1, 0, none⟩ = some (.int .i64 c) ∧ w'.cell? ⟨w.heap.size + 1, 1, none⟩ = some (.int .i64 d)) (first | exact ⟨c1, c2, c3, c4⟩) (first | (go_at_call 44; (with_reducible refine (covers_any _ _ _ _ _).mono ?_); rintro e w5 ⟨rfl, hb5⟩; replace c1 := bkeep hb5 c1; replace c2 := bkeep hb5 c2; replace c3 := bkeep hb5 c3; replace c4 := bkeep hb5 c4; replace HB := bt HB hb5))
      go_wp2
      go_ret
      exact ⟨congrArg (fun x => Ending.returned (.int .i64 x)) HF.out, HB⟩
  · cases hB : coversB c d a b
    · have HF : Hid ((1 : Int) = cmpZ a b c d) := by show _ = _; unfold cmpZ; rw [hA, hB]; rfl
      go_enter Try.func26, Try.ntmps26
      go_wp2_with fail
      generalize (w.alloc (.cells #[.int .i64 a, .int .i64 b] 23)).alloc (.cells #[.int .i64 c, .int .i64 d] 23) = W at *
      replace HB := HB.drew
      go_region_held3 (fun w' => w'.cell? ⟨w.heap.size, 0, none⟩ = some (.int .i64 a) ∧ w'.cell? ⟨w.heap.size, 1, none⟩ = some (.int .i64 b) ∧ w'.cell? ⟨w.heap.size + 1, 0, none⟩ = some (.int .i64 c) ∧ w'.cell? ⟨w.heap.size + 1, 1, none⟩ = some (.int .i64 d)) (first | exact ⟨c1, c2, c3, c4⟩) (first | (go_at_call 44; (with_reducible refine (covers_any _ _ _ _ _).mono ?_); rintro e w5 ⟨rfl, hb5⟩; replace c1 := bkeep hb5 c1; replace c2 := bkeep hb5 c2; replace c3 := bkeep hb5 c3; replace c4 := bkeep hb5 c4; replace HB := bt HB hb5))
      go_wp2
      go_ret
      exact ⟨congrArg (fun x => Ending.returned (.int .i64 x)) HF.out, HB⟩
    · have HF : Hid ((0 : Int) = cmpZ a b c d) := by show _ = _; unfold cmpZ; rw [hA, hB]; rfl
      go_enter Try.func26, Try.ntmps26
      go_wp2_with fail
      generalize (w.alloc (.cells #[.int .i64 a, .int .i64 b] 23)).alloc (.cells #[.int .i64 c, .int .i64 d] 23) = W at *
      replace HB := HB.drew
      go_region_held3 (fun w' => w'.cell? ⟨w.heap.size, 0, none⟩ = some (.int .i64 a) ∧ w'.cell? ⟨w.heap.size, 1, none⟩ = some (.int .i64 b) ∧ w'.cell? ⟨w.heap.size + 1, 0, none⟩ = some (.int .i64 c) ∧ w'.cell? ⟨w.heap.size + 1, 1, none⟩ = some (.int .i64 d)) (first | exact ⟨c1, c2, c3, c4⟩) (first | (go_at_call 44; (with_reducible refine (covers_any _ _ _ _ _).mono ?_); rintro e w5 ⟨rfl, hb5⟩; replace c1 := bkeep hb5 c1; replace c2 := bkeep hb5 c2; replace c3 := bkeep hb5 c3; replace c4 := bkeep hb5 c4; replace HB := bt HB hb5))
      go_wp2
      go_ret
      exact ⟨congrArg (fun x => Ending.returned (.int .i64 x)) HF.out, HB⟩
set_option maxHeartbeats 6400000 in
theorem rcompare_any (a b c d : Int) (w : World) : Calls Try.prog 13 #[VV a b, VV c d] w fun e w' => e = .returned (.int .i64 (cmpZ a b c d)) ∧ Below w.heap.size w w' := by
  obtain ⟨c1, c2, c3, c4⟩ := held4 (w := w) (a := a) (b := b) (c := c) (d := d) 23
  have HB : Below w.heap.size w ((w.alloc (.cells #[.int .i64 a, .int .i64 b] 23)).alloc (.cells #[.int .i64 c, .int .i64 d] 23)) := ((Below.refl _ _).alloc (Nat.le_refl _) _).alloc (by simp) _
  cases hA : coversB a b c d
  · cases hB : coversB c d a b
    · have HF : Hid ((3 : Int) = cmpZ a b c d) := by show _ = _; unfold cmpZ; rw [hA, hB]; rfl
      go_enter Try.func13, Try.ntmps13
      go_wp2_with fail
      generalize (w.alloc (.cells #[.int .i64 a, .int .i64 b] 23)).alloc (.cells #[.int .i64 c, .int .i64 d] 23) = W at *
      go_wp2_with (first | (go_at_call 30; (with_reducible refine (rcovers_any _ _ _ _ _).mono ?_); rintro e w5 ⟨rfl, hb5⟩; replace c1 := bkeep hb5 c1; replace c2 := bkeep hb5 c2; replace c3 := bkeep hb5 c3; replace c4 := bkeep hb5 c4; replace HB := bt HB hb5))
      go_ret
      exact ⟨congrArg (fun x => Ending.returned (.int .i64 x)) HF.out, HB⟩
    · have HF : Hid ((2 : Int) = cmpZ a b c d) := by show _ = _; unfold cmpZ; rw [hA, hB]; rfl
      go_enter Try.func13, Try.ntmps13
      go_wp2_with fail
      generalize (w.alloc (.cells #[.int .i64 a, .int .i64 b] 23)).alloc (.cells #[.int .i64 c, .int .i64 d] 23) = W at *
      go_wp2_with (first | (go_at_call 30; (with_reducible refine (rcovers_any _ _ _ _ _).mono ?_); rintro e w5 ⟨rfl, hb5⟩; replace c1 := bkeep hb5 c1; replace c2 := bkeep hb5 c2; replace c3 := bkeep hb5 c3; replace c4 := bkeep hb5 c4; replace HB := bt HB hb5))
      go_ret
      exact ⟨congrArg (fun x => Ending.returned (.int .i64 x)) HF.out, HB⟩
  · cases hB : coversB c d a b
    · have HF : Hid ((1 : Int) = cmpZ a b c d) := by show _ = _; unfold cmpZ; rw [hA, hB]; rfl
      go_enter Try.func13, Try.ntmps13
      go_wp2_with fail
      generalize (w.alloc (.cells #[.int .i64 a, .int .i64 b] 23)).alloc (.cells #[.int .i64 c, .int .i64 d] 23) = W at *
      go_wp2_with (first | (go_at_call 30; (with_reducible refine (rcovers_any _ _ _ _ _).mono ?_); rintro e w5 ⟨rfl, hb5⟩; replace c1 := bkeep hb5 c1; replace c2 := bkeep hb5 c2; replace c3 := bkeep hb5 c3; replace c4 := bkeep hb5 c4; replace HB := bt HB hb5))
      go_ret
      exact ⟨congrArg (fun x => Ending.returned (.int .i64 x)) HF.out, HB⟩
    · have HF : Hid ((0 : Int) = cmpZ a b c d) := by show _ = _; unfold cmpZ; rw [hA, hB]; rfl
      go_enter Try.func13, Try.ntmps13
      go_wp2_with fail
      generalize (w.alloc (.cells #[.int .i64 a, .int .i64 b] 23)).alloc (.cells #[.int .i64 c, .int .i64 d] 23) = W at *
      go_wp2_with (first | (go_at_call 30; (with_reducible refine (rcovers_any _ _ _ _ _).mono ?_); rintro e w5 ⟨rfl, hb5⟩; replace c1 := bkeep hb5 c1; replace c2 := bkeep hb5 c2; replace c3 := bkeep hb5 c3; replace c4 := bkeep hb5 c4; replace HB := bt HB hb5))
      go_ret
      exact ⟨congrArg (fun x => Ending.returned (.int .i64 x)) HF.out, HB⟩
theorem side_any (g : Nat) (n : Int) (w : World) : Calls Try.prog 56 #[.pointer (some ⟨g, 0, none⟩), .int .i64 n] w fun e w' => e = .returned (if n = 0 then .pointer (some ⟨g, 0, none⟩) else if n = 1 then .pointer (some ⟨g, 1, none⟩) else .pointer none) ∧ w = w' := by
  by_cases h0 : n = 0
  · subst h0
    go_enter Try.func56, Try.ntmps56
    go_wp2
    go_ret
    exact ⟨rfl, rfl⟩
  · have hb0 : (n == 0) = false := by simpa using h0
    by_cases h1 : n = 1
    · subst h1
      go_enter Try.func56, Try.ntmps56
      go_wp2
      go_ret
      exact ⟨rfl, rfl⟩
    · have hb1 : (n == 1) = false := by simpa using h1
      rw [if_neg h0, if_neg h1]
      go_enter Try.func56, Try.ntmps56
      go_wp2
      go_ret
      exact ⟨rfl, rfl⟩

def atZ (a b n : Int) : Int := if n = 0 then a else if n = 1 then b else 0
set_option maxHeartbeats 1600000 in
theorem rat_any (a b n : Int) (w : World) : Calls Try.prog 48 #[VV a b, .int .i64 n] w fun e w' => e = .returned (.int .i64 (atZ a b n)) ∧ Below w.heap.size w w' := by
  by_cases h0 : n = 0
  · subst h0
    go_enter Try.func48, Try.ntmps48
    go_wp2
    go_ret
    exact ⟨rfl, (Below.refl _ _).alloc (Nat.le_refl _) _⟩
  · have hb0 : (n == 0) = false := by simpa using h0
    by_cases h1 : n = 1
    · subst h1
      go_enter Try.func48, Try.ntmps48
      go_wp2
      go_ret
      exact ⟨rfl, (Below.refl _ _).alloc (Nat.le_refl _) _⟩
    · have hb1 : (n == 1) = false := by simpa using h1
      have HF : Hid ((0 : Int) = atZ a b n) := by show _ = _; unfold atZ; rw [if_neg h0, if_neg h1]
      go_enter Try.func48, Try.ntmps48
      go_wp2
      go_ret
      exact ⟨congrArg (fun x => Ending.returned (.int .i64 x)) HF.out, (Below.refl _ _).alloc (Nat.le_refl _) _⟩

/-! ### a vector that comes further -/
def bumpOk (a b node boot : Int) : Bool := decide (node = 0 ∨ node = 1) && rightB a b && withinB boot 16777216
def bumpN (a b node boot : Int) : Int := mx (atZ a b node) (boot * 16777216) + 1
def bumpE (a b node boot : Int) : Int := if bumpOk a b node boot = true then (if 1125899906842624 < bumpN a b node boot then 17 else 0) else 3
def bumpA (a b node boot : Int) : Int := if bumpE a b node boot = 0 then (if node = 0 then bumpN a b node boot else a) else 0
def bumpB (a b node boot : Int) : Int := if bumpE a b node boot = 0 then (if node = 0 then b else bumpN a b node boot) else 0
theorem free4 {w : World} {a b c d : Int} (T : TypeId) (j : Nat) :
    ((w.alloc (.cells #[.int .i64 a, .int .i64 b] T)).alloc (.cells #[.int .i64 c, .int .i64 d] T)).frozen? ⟨w.heap.size, j, none⟩ = false ∧
    ((w.alloc (.cells #[.int .i64 a, .int .i64 b] T)).alloc (.cells #[.int .i64 c, .int .i64 d] T)).frozen? ⟨w.heap.size + 1, j, none⟩ = false := by
  refine ⟨?_, ?_⟩ <;> simp [go_sem]
theorem bump_vals (a b node boot : Int) (h : node = 0 ∨ node = 1) (hr : rightB a b = true) (hw : withinB boot 16777216 = true) : bumpE a b node boot = if 1125899906842624 < bumpN a b node boot then 17 else 0 := by
  unfold bumpE bumpOk
  rw [hr, hw, decide_eq_true h]; rfl
theorem bump_bad (a b node boot : Int) (h : ¬ (node = 0 ∨ node = 1) ∨ rightB a b = false ∨ withinB boot 16777216 = false) : bumpA a b node boot = 0 ∧ bumpB a b node boot = 0 ∧ bumpE a b node boot = 3 := by
  have e : bumpE a b node boot = 3 := by
    unfold bumpE
    rw [if_neg]
    unfold bumpOk
    rcases h with h | h | h
    · rw [decide_eq_false h]; simp
    · rw [h]; simp
    · rw [h]; simp
  refine ⟨?_, ?_, e⟩
  · unfold bumpA; rw [e, if_neg (by decide)]
  · unfold bumpB; rw [e, if_neg (by decide)]
set_option maxHeartbeats 3200000 in
theorem bump_bad0 (a b boot : Int) (w : World) (h : rightB a b = false ∨ withinB boot 16777216 = false) : Calls Try.prog 47 #[VV a b, .int .i64 0, .int .i64 boot] w fun e w' => e = .returned (.tuple #[VV 0 0, .int .i64 3]) ∧ Below w.heap.size w w' := by
  cases hr : rightB a b
  · go_enter Try.func47, Try.ntmps47
    go_wp2_with fail
    refine (side_any _ _ _).mono ?_
    rintro e wx ⟨rfl, rfl⟩
    rw [if_pos rfl]
    obtain ⟨c1, c2, c3, c4⟩ := held4 (w := w) (a := a) (b := b) (c := 0) (d := 0) 23
    obtain ⟨f1, f3⟩ := free4 (w := w) (a := a) (b := b) (c := 0) (d := 0) 23 0
    obtain ⟨f2, f4⟩ := free4 (w := w) (a := a) (b := b) (c := 0) (d := 0) 23 1
    have HB : Below w.heap.size w ((w.alloc (.cells #[.int .i64 a, .int .i64 b] 23)).alloc (.cells #[.int .i64 0, .int .i64 0] 23)) := ((Below.refl _ _).alloc (Nat.le_refl _) _).alloc (by simp) _
    go_wp2_with fail
    generalize (w.alloc (.cells #[.int .i64 a, .int .i64 b] 23)).alloc (.cells #[.int .i64 0, .int .i64 0] 23) = W at *
    refine (right_any _ _ _).mono ?_
    rintro e w5 ⟨rfl, hb5⟩
    replace f1 := bfree hb5 c1 f1
    replace f2 := bfree hb5 c2 f2
    replace f3 := bfree hb5 c3 f3
    replace f4 := bfree hb5 c4 f4
    replace c1 := bkeep hb5 c1
    replace c2 := bkeep hb5 c2
    replace c3 := bkeep hb5 c3
    replace c4 := bkeep hb5 c4
    replace HB := bt HB hb5
    clear hb5

    go_wp2_with fail
    exact bodyPost_ret (v := .tuple #[VV 0 0, .int .i64 3]) (by simp [results, Try.results47, go_sem, c3, c4]) rfl ⟨rfl, (HB.setCell (by simp) _).setCell (by simp) _⟩
  · have hw : withinB boot 16777216 = false := by rcases h with h | h; rw [hr] at h; cases h; exact h
    clear h
    go_enter Try.func47, Try.ntmps47
    go_wp2_with fail
    refine (side_any _ _ _).mono ?_
    rintro e wx ⟨rfl, rfl⟩
    rw [if_pos rfl]
    obtain ⟨c1, c2, c3, c4⟩ := held4 (w := w) (a := a) (b := b) (c := 0) (d := 0) 23
    obtain ⟨f1, f3⟩ := free4 (w := w) (a := a) (b := b) (c := 0) (d := 0) 23 0
    obtain ⟨f2, f4⟩ := free4 (w := w) (a := a) (b := b) (c := 0) (d := 0) 23 1
    have HB : Below w.heap.size w ((w.alloc (.cells #[.int .i64 a, .int .i64 b] 23)).alloc (.cells #[.int .i64 0, .int .i64 0] 23)) := ((Below.refl _ _).alloc (Nat.le_refl _) _).alloc (by simp) _
    go_wp2_with fail
    generalize (w.alloc (.cells #[.int .i64 a, .int .i64 b] 23)).alloc (.cells #[.int .i64 0, .int .i64 0] 23) = W at *
    refine (right_any _ _ _).mono ?_
    rintro e w5 ⟨rfl, hb5⟩
    replace f1 := bfree hb5 c1 f1
    replace f2 := bfree hb5 c2 f2
    replace f3 := bfree hb5 c3 f3
    replace f4 := bfree hb5 c4 f4
    replace c1 := bkeep hb5 c1
    replace c2 := bkeep hb5 c2
    replace c3 := bkeep hb5 c3
    replace c4 := bkeep hb5 c4
    replace HB := bt HB hb5
    clear hb5
    go_wp2_with fail
    refine (within_any _ _ _).mono ?_
    rintro e wx ⟨rfl, rfl⟩
    go_wp2_with fail
    exact bodyPost_ret (v := .tuple #[VV 0 0, .int .i64 3]) (by simp [results, Try.results47, go_sem, c3, c4]) rfl ⟨rfl, (HB.setCell (by simp) _).setCell (by simp) _⟩
set_option maxHeartbeats 6400000 in
theorem bump_ok0 (a b boot : Int) (w : World) (hr : rightB a b = true) (hw : withinB boot 16777216 = true) : Calls Try.prog 47 #[VV a b, .int .i64 0, .int .i64 boot] w fun e w' => e = .returned (.tuple #[VV (bumpA a b 0 boot) (bumpB a b 0 boot), .int .i64 (bumpE a b 0 boot)]) ∧ Below w.heap.size w w' := by
  have hE := bump_vals a b 0 boot (by omega) hr hw
  obtain ⟨a0, a1, b0, b1⟩ := of_decide_eq_true hr
  obtain ⟨t0, t1⟩ := of_decide_eq_true hw
  have hN : bumpN a b 0 boot = (if a < boot * 16777216 then boot * 16777216 else a) + 1 := rfl
  by_cases hm : a < boot * 16777216
  · rw [if_pos hm] at hN
    by_cases hl : 1125899906842624 < boot * 16777216 + 1
    · exfalso; omega
    · rw [hN, if_neg hl] at hE
      have eA : bumpA a b 0 boot = boot * 16777216 + 1 := by unfold bumpA; rw [hE, if_pos rfl, hN]; rfl
      have eB : bumpB a b 0 boot = b := by unfold bumpB; rw [hE, if_pos rfl, hN]; rfl
      rw [hE, eA, eB]
      clear hE eA eB hN
      go_enter Try.func47, Try.ntmps47
      go_wp2_with fail
      refine (side_any _ _ _).mono ?_
      rintro e wx ⟨rfl, rfl⟩
      rw [if_pos rfl]
      obtain ⟨c1, c2, c3, c4⟩ := held4 (w := w) (a := a) (b := b) (c := 0) (d := 0) 23
      obtain ⟨f1, f3⟩ := free4 (w := w) (a := a) (b := b) (c := 0) (d := 0) 23 0
      obtain ⟨f2, f4⟩ := free4 (w := w) (a := a) (b := b) (c := 0) (d := 0) 23 1
      have HB : Below w.heap.size w ((w.alloc (.cells #[.int .i64 a, .int .i64 b] 23)).alloc (.cells #[.int .i64 0, .int .i64 0] 23)) := ((Below.refl _ _).alloc (Nat.le_refl _) _).alloc (by simp) _
      go_wp2_with fail
      generalize (w.alloc (.cells #[.int .i64 a, .int .i64 b] 23)).alloc (.cells #[.int .i64 0, .int .i64 0] 23) = W at *
      refine (right_any _ _ _).mono ?_
      rintro e w5 ⟨rfl, hb5⟩
      replace f1 := bfree hb5 c1 f1
      replace f2 := bfree hb5 c2 f2
      replace f3 := bfree hb5 c3 f3
      replace f4 := bfree hb5 c4 f4
      replace c1 := bkeep hb5 c1
      replace c2 := bkeep hb5 c2
      replace c3 := bkeep hb5 c3
      replace c4 := bkeep hb5 c4
      replace HB := bt HB hb5
      clear hb5
      go_wp2_with fail
      refine (within_any _ _ _).mono ?_
      rintro e wx ⟨rfl, rfl⟩
      go_wp2_with fail
      exact bodyPost_ret (v := .tuple #[VV (boot * 16777216 + 1) b, .int .i64 0]) (by simp [results, Try.results47, go_sem, c1, c2, c3, c4]) rfl ⟨rfl, by repeat (first | exact HB | refine Below.setCell ?_ (by simp) _)⟩
  · rw [if_neg hm] at hN
    by_cases hl : 1125899906842624 < a + 1
    · rw [hN, if_pos hl] at hE
      have eA : bumpA a b 0 boot = 0 := by unfold bumpA; rw [hE, if_neg (by decide)]
      have eB : bumpB a b 0 boot = 0 := by unfold bumpB; rw [hE, if_neg (by decide)]
      rw [hE, eA, eB]
      clear hE eA eB hN
      go_enter Try.func47, Try.ntmps47
      go_wp2_with fail
      refine (side_any _ _ _).mono ?_
      rintro e wx ⟨rfl, rfl⟩
      rw [if_pos rfl]
      obtain ⟨c1, c2, c3, c4⟩ := held4 (w := w) (a := a) (b := b) (c := 0) (d := 0) 23
      obtain ⟨f1, f3⟩ := free4 (w := w) (a := a) (b := b) (c := 0) (d := 0) 23 0
      obtain ⟨f2, f4⟩ := free4 (w := w) (a := a) (b := b) (c := 0) (d := 0) 23 1
      have HB : Below w.heap.size w ((w.alloc (.cells #[.int .i64 a, .int .i64 b] 23)).alloc (.cells #[.int .i64 0, .int .i64 0] 23)) := ((Below.refl _ _).alloc (Nat.le_refl _) _).alloc (by simp) _
      go_wp2_with fail
      generalize (w.alloc (.cells #[.int .i64 a, .int .i64 b] 23)).alloc (.cells #[.int .i64 0, .int .i64 0] 23) = W at *
      refine (right_any _ _ _).mono ?_
      rintro e w5 ⟨rfl, hb5⟩
      replace f1 := bfree hb5 c1 f1
      replace f2 := bfree hb5 c2 f2
      replace f3 := bfree hb5 c3 f3
      replace f4 := bfree hb5 c4 f4
      replace c1 := bkeep hb5 c1
      replace c2 := bkeep hb5 c2
      replace c3 := bkeep hb5 c3
      replace c4 := bkeep hb5 c4
      replace HB := bt HB hb5
      clear hb5
      go_wp2_with fail
      refine (within_any _ _ _).mono ?_
      rintro e wx ⟨rfl, rfl⟩
      go_wp2_with fail
      exact bodyPost_ret (v := .tuple #[VV 0 0, .int .i64 17]) (by simp [results, Try.results47, go_sem, c1, c2, c3, c4]) rfl ⟨rfl, by repeat (first | exact HB | refine Below.setCell ?_ (by simp) _)⟩
    · rw [hN, if_neg hl] at hE
      have eA : bumpA a b 0 boot = a + 1 := by unfold bumpA; rw [hE, if_pos rfl, hN]; rfl
      have eB : bumpB a b 0 boot = b := by unfold bumpB; rw [hE, if_pos rfl, hN]; rfl
      rw [hE, eA, eB]
      clear hE eA eB hN
      go_enter Try.func47, Try.ntmps47
      go_wp2_with fail
      refine (side_any _ _ _).mono ?_
      rintro e wx ⟨rfl, rfl⟩
      rw [if_pos rfl]
      obtain ⟨c1, c2, c3, c4⟩ := held4 (w := w) (a := a) (b := b) (c := 0) (d := 0) 23
      obtain ⟨f1, f3⟩ := free4 (w := w) (a := a) (b := b) (c := 0) (d := 0) 23 0
      obtain ⟨f2, f4⟩ := free4 (w := w) (a := a) (b := b) (c := 0) (d := 0) 23 1
      have HB : Below w.heap.size w ((w.alloc (.cells #[.int .i64 a, .int .i64 b] 23)).alloc (.cells #[.int .i64 0, .int .i64 0] 23)) := ((Below.refl _ _).alloc (Nat.le_refl _) _).alloc (by simp) _
      go_wp2_with fail
      generalize (w.alloc (.cells #[.int .i64 a, .int .i64 b] 23)).alloc (.cells #[.int .i64 0, .int .i64 0] 23) = W at *
      refine (right_any _ _ _).mono ?_
      rintro e w5 ⟨rfl, hb5⟩
      replace f1 := bfree hb5 c1 f1
      replace f2 := bfree hb5 c2 f2
      replace f3 := bfree hb5 c3 f3
      replace f4 := bfree hb5 c4 f4
      replace c1 := bkeep hb5 c1
      replace c2 := bkeep hb5 c2
      replace c3 := bkeep hb5 c3
      replace c4 := bkeep hb5 c4
      replace HB := bt HB hb5
      clear hb5
      go_wp2_with fail
      refine (within_any _ _ _).mono ?_
      rintro e wx ⟨rfl, rfl⟩
      go_wp2_with fail
      exact bodyPost_ret (v := .tuple #[VV (a + 1) b, .int .i64 0]) (by simp [results, Try.results47, go_sem, c1, c2, c3, c4]) rfl ⟨rfl, by repeat (first | exact HB | refine Below.setCell ?_ (by simp) _)⟩
set_option maxHeartbeats 3200000 in
theorem bump_bad1 (a b boot : Int) (w : World) (h : rightB a b = false ∨ withinB boot 16777216 = false) : Calls Try.prog 47 #[VV a b, .int .i64 1, .int .i64 boot] w fun e w' => e = .returned (.tuple #[VV 0 0, .int .i64 3]) ∧ Below w.heap.size w w' := by
  cases hr : rightB a b
  · go_enter Try.func47, Try.ntmps47
    go_wp2_with fail
    refine (side_any _ _ _).mono ?_
    rintro e wx ⟨rfl, rfl⟩
    rw [if_neg (by decide), if_pos rfl]
    obtain ⟨c1, c2, c3, c4⟩ := held4 (w := w) (a := a) (b := b) (c := 0) (d := 0) 23
    obtain ⟨f1, f3⟩ := free4 (w := w) (a := a) (b := b) (c := 0) (d := 0) 23 0
    obtain ⟨f2, f4⟩ := free4 (w := w) (a := a) (b := b) (c := 0) (d := 0) 23 1
    have HB : Below w.heap.size w ((w.alloc (.cells #[.int .i64 a, .int .i64 b] 23)).alloc (.cells #[.int .i64 0, .int .i64 0] 23)) := ((Below.refl _ _).alloc (Nat.le_refl _) _).alloc (by simp) _
    go_wp2_with fail
    generalize (w.alloc (.cells #[.int .i64 a, .int .i64 b] 23)).alloc (.cells #[.int .i64 0, .int .i64 0] 23) = W at *
    refine (right_any _ _ _).mono ?_
    rintro e w5 ⟨rfl, hb5⟩
    replace f1 := bfree hb5 c1 f1
    replace f2 := bfree hb5 c2 f2
    replace f3 := bfree hb5 c3 f3
    replace f4 := bfree hb5 c4 f4
    replace c1 := bkeep hb5 c1
    replace c2 := bkeep hb5 c2
    replace c3 := bkeep hb5 c3
    replace c4 := bkeep hb5 c4
    replace HB := bt HB hb5
    clear hb5

    go_wp2_with fail
    exact bodyPost_ret (v := .tuple #[VV 0 0, .int .i64 3]) (by simp [results, Try.results47, go_sem, c3, c4]) rfl ⟨rfl, (HB.setCell (by simp) _).setCell (by simp) _⟩
  · have hw : withinB boot 16777216 = false := by rcases h with h | h; rw [hr] at h; cases h; exact h
    clear h
    go_enter Try.func47, Try.ntmps47
    go_wp2_with fail
    refine (side_any _ _ _).mono ?_
    rintro e wx ⟨rfl, rfl⟩
    rw [if_neg (by decide), if_pos rfl]
    obtain ⟨c1, c2, c3, c4⟩ := held4 (w := w) (a := a) (b := b) (c := 0) (d := 0) 23
    obtain ⟨f1, f3⟩ := free4 (w := w) (a := a) (b := b) (c := 0) (d := 0) 23 0
    obtain ⟨f2, f4⟩ := free4 (w := w) (a := a) (b := b) (c := 0) (d := 0) 23 1
    have HB : Below w.heap.size w ((w.alloc (.cells #[.int .i64 a, .int .i64 b] 23)).alloc (.cells #[.int .i64 0, .int .i64 0] 23)) := ((Below.refl _ _).alloc (Nat.le_refl _) _).alloc (by simp) _
    go_wp2_with fail
    generalize (w.alloc (.cells #[.int .i64 a, .int .i64 b] 23)).alloc (.cells #[.int .i64 0, .int .i64 0] 23) = W at *
    refine (right_any _ _ _).mono ?_
    rintro e w5 ⟨rfl, hb5⟩
    replace f1 := bfree hb5 c1 f1
    replace f2 := bfree hb5 c2 f2
    replace f3 := bfree hb5 c3 f3
    replace f4 := bfree hb5 c4 f4
    replace c1 := bkeep hb5 c1
    replace c2 := bkeep hb5 c2
    replace c3 := bkeep hb5 c3
    replace c4 := bkeep hb5 c4
    replace HB := bt HB hb5
    clear hb5
    go_wp2_with fail
    refine (within_any _ _ _).mono ?_
    rintro e wx ⟨rfl, rfl⟩
    go_wp2_with fail
    exact bodyPost_ret (v := .tuple #[VV 0 0, .int .i64 3]) (by simp [results, Try.results47, go_sem, c3, c4]) rfl ⟨rfl, (HB.setCell (by simp) _).setCell (by simp) _⟩
set_option maxHeartbeats 6400000 in
theorem bump_ok1 (a b boot : Int) (w : World) (hr : rightB a b = true) (hw : withinB boot 16777216 = true) : Calls Try.prog 47 #[VV a b, .int .i64 1, .int .i64 boot] w fun e w' => e = .returned (.tuple #[VV (bumpA a b 1 boot) (bumpB a b 1 boot), .int .i64 (bumpE a b 1 boot)]) ∧ Below w.heap.size w w' := by
  have hE := bump_vals a b 1 boot (by omega) hr hw
  obtain ⟨a0, a1, b0, b1⟩ := of_decide_eq_true hr
  obtain ⟨t0, t1⟩ := of_decide_eq_true hw
  have hN : bumpN a b 1 boot = (if b < boot * 16777216 then boot * 16777216 else b) + 1 := rfl
  by_cases hm : b < boot * 16777216
  · rw [if_pos hm] at hN
    by_cases hl : 1125899906842624 < boot * 16777216 + 1
    · exfalso; omega
    · rw [hN, if_neg hl] at hE
      have eA : bumpA a b 1 boot = a := by unfold bumpA; rw [hE, if_pos rfl, hN]; rfl
      have eB : bumpB a b 1 boot = boot * 16777216 + 1 := by unfold bumpB; rw [hE, if_pos rfl, hN]; rfl
      rw [hE, eA, eB]
      clear hE eA eB hN
      go_enter Try.func47, Try.ntmps47
      go_wp2_with fail
      refine (side_any _ _ _).mono ?_
      rintro e wx ⟨rfl, rfl⟩
      rw [if_neg (by decide), if_pos rfl]
      obtain ⟨c1, c2, c3, c4⟩ := held4 (w := w) (a := a) (b := b) (c := 0) (d := 0) 23
      obtain ⟨f1, f3⟩ := free4 (w := w) (a := a) (b := b) (c := 0) (d := 0) 23 0
      obtain ⟨f2, f4⟩ := free4 (w := w) (a := a) (b := b) (c := 0) (d := 0) 23 1
      have HB : Below w.heap.size w ((w.alloc (.cells #[.int .i64 a, .int .i64 b] 23)).alloc (.cells #[.int .i64 0, .int .i64 0] 23)) := ((Below.refl _ _).alloc (Nat.le_refl _) _).alloc (by simp) _
      go_wp2_with fail
      generalize (w.alloc (.cells #[.int .i64 a, .int .i64 b] 23)).alloc (.cells #[.int .i64 0, .int .i64 0] 23) = W at *
      refine (right_any _ _ _).mono ?_
      rintro e w5 ⟨rfl, hb5⟩
      replace f1 := bfree hb5 c1 f1
      replace f2 := bfree hb5 c2 f2
      replace f3 := bfree hb5 c3 f3
      replace f4 := bfree hb5 c4 f4
      replace c1 := bkeep hb5 c1
      replace c2 := bkeep hb5 c2
      replace c3 := bkeep hb5 c3
      replace c4 := bkeep hb5 c4
      replace HB := bt HB hb5
      clear hb5
      go_wp2_with fail
      refine (within_any _ _ _).mono ?_
      rintro e wx ⟨rfl, rfl⟩
      go_wp2_with fail
      exact bodyPost_ret (v := .tuple #[VV a (boot * 16777216 + 1), .int .i64 0]) (by simp [results, Try.results47, go_sem, c1, c2, c3, c4]) rfl ⟨rfl, by repeat (first | exact HB | refine Below.setCell ?_ (by simp) _)⟩
  · rw [if_neg hm] at hN
    by_cases hl : 1125899906842624 < b + 1
    · rw [hN, if_pos hl] at hE
      have eA : bumpA a b 1 boot = 0 := by unfold bumpA; rw [hE, if_neg (by decide)]
      have eB : bumpB a b 1 boot = 0 := by unfold bumpB; rw [hE, if_neg (by decide)]
      rw [hE, eA, eB]
      clear hE eA eB hN
      go_enter Try.func47, Try.ntmps47
      go_wp2_with fail
      refine (side_any _ _ _).mono ?_
      rintro e wx ⟨rfl, rfl⟩
      rw [if_neg (by decide), if_pos rfl]
      obtain ⟨c1, c2, c3, c4⟩ := held4 (w := w) (a := a) (b := b) (c := 0) (d := 0) 23
      obtain ⟨f1, f3⟩ := free4 (w := w) (a := a) (b := b) (c := 0) (d := 0) 23 0
      obtain ⟨f2, f4⟩ := free4 (w := w) (a := a) (b := b) (c := 0) (d := 0) 23 1
      have HB : Below w.heap.size w ((w.alloc (.cells #[.int .i64 a, .int .i64 b] 23)).alloc (.cells #[.int .i64 0, .int .i64 0] 23)) := ((Below.refl _ _).alloc (Nat.le_refl _) _).alloc (by simp) _
      go_wp2_with fail
      generalize (w.alloc (.cells #[.int .i64 a, .int .i64 b] 23)).alloc (.cells #[.int .i64 0, .int .i64 0] 23) = W at *
      refine (right_any _ _ _).mono ?_
      rintro e w5 ⟨rfl, hb5⟩
      replace f1 := bfree hb5 c1 f1
      replace f2 := bfree hb5 c2 f2
      replace f3 := bfree hb5 c3 f3
      replace f4 := bfree hb5 c4 f4
      replace c1 := bkeep hb5 c1
      replace c2 := bkeep hb5 c2
      replace c3 := bkeep hb5 c3
      replace c4 := bkeep hb5 c4
      replace HB := bt HB hb5
      clear hb5
      go_wp2_with fail
      refine (within_any _ _ _).mono ?_
      rintro e wx ⟨rfl, rfl⟩
      go_wp2_with fail
      exact bodyPost_ret (v := .tuple #[VV 0 0, .int .i64 17]) (by simp [results, Try.results47, go_sem, c1, c2, c3, c4]) rfl ⟨rfl, by repeat (first | exact HB | refine Below.setCell ?_ (by simp) _)⟩
    · rw [hN, if_neg hl] at hE
      have eA : bumpA a b 1 boot = a := by unfold bumpA; rw [hE, if_pos rfl, hN]; rfl
      have eB : bumpB a b 1 boot = b + 1 := by unfold bumpB; rw [hE, if_pos rfl, hN]; rfl
      rw [hE, eA, eB]
      clear hE eA eB hN
      go_enter Try.func47, Try.ntmps47
      go_wp2_with fail
      refine (side_any _ _ _).mono ?_
      rintro e wx ⟨rfl, rfl⟩
      rw [if_neg (by decide), if_pos rfl]
      obtain ⟨c1, c2, c3, c4⟩ := held4 (w := w) (a := a) (b := b) (c := 0) (d := 0) 23
      obtain ⟨f1, f3⟩ := free4 (w := w) (a := a) (b := b) (c := 0) (d := 0) 23 0
      obtain ⟨f2, f4⟩ := free4 (w := w) (a := a) (b := b) (c := 0) (d := 0) 23 1
      have HB : Below w.heap.size w ((w.alloc (.cells #[.int .i64 a, .int .i64 b] 23)).alloc (.cells #[.int .i64 0, .int .i64 0] 23)) := ((Below.refl _ _).alloc (Nat.le_refl _) _).alloc (by simp) _
      go_wp2_with fail
      generalize (w.alloc (.cells #[.int .i64 a, .int .i64 b] 23)).alloc (.cells #[.int .i64 0, .int .i64 0] 23) = W at *
      refine (right_any _ _ _).mono ?_
      rintro e w5 ⟨rfl, hb5⟩
      replace f1 := bfree hb5 c1 f1
      replace f2 := bfree hb5 c2 f2
      replace f3 := bfree hb5 c3 f3
      replace f4 := bfree hb5 c4 f4
      replace c1 := bkeep hb5 c1
      replace c2 := bkeep hb5 c2
      replace c3 := bkeep hb5 c3
      replace c4 := bkeep hb5 c4
      replace HB := bt HB hb5
      clear hb5
      go_wp2_with fail
      refine (within_any _ _ _).mono ?_
      rintro e wx ⟨rfl, rfl⟩
      go_wp2_with fail
      exact bodyPost_ret (v := .tuple #[VV a (b + 1), .int .i64 0]) (by simp [results, Try.results47, go_sem, c1, c2, c3, c4]) rfl ⟨rfl, by repeat (first | exact HB | refine Below.setCell ?_ (by simp) _)⟩
end Go.Proofs.Ytingeahkndingaa
