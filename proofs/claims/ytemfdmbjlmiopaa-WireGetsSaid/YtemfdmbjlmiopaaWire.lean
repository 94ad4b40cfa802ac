/-
  Messages as bytes (chapter 25): what a kind tells, what is to spare, a message's box.
-/
import Derived.Test.YtemfdmbjlmiopaaWirePlain2
import Derived.Test.YtemfdmbjlmiopaaCode5
namespace Go.Proofs.Ytemfdmbjlmiopaa
open Go.RowKit
set_option linter.unusedVariables false
set_option linter.unusedSimpArgs false
abbrev TV (a b c d : Bool) : Value := .agg #[.bool a, .bool b, .bool c, .bool d]
def okK (k : Int) : Bool := decide (1 ≤ k ∧ k ≤ 8)
set_option maxHeartbeats 1600000 in
theorem of_ok (k : Int) (w : World) (h : ¬ (k < 1 ∨ 8 < k)) : Calls Try.prog 21 #[.int .i64 k] w fun e w' => e = .returned (.tuple #[TV (T0 k) (T1 k) (T2 k) (T3 k), .bool true]) ∧ Below w.heap.size w w' := by
  rcases kinds k with h1 | (h1 | h1 | h1) | (h1 | h1) | h1 | (h1 | h1)
  · exact absurd h1 h
  · subst h1
    show Calls Try.prog _ _ _ fun e w' => e = .returned (.tuple #[TV true true false false, .bool true]) ∧ _
    go_enter Try.func21, Try.ntmps21
    go_wp2
    exact bodyPost_ret (v := .tuple #[TV true true false false, .bool true]) (by simp [results, Try.results21, go_sem]) rfl ⟨rfl, by repeat (first | with_reducible exact Below.refl _ _ | with_reducible refine Below.setCell ?_ (by first | (simp; done) | (simp; omega)) _ | with_reducible refine Below.alloc ?_ (by first | (simp; done) | (simp; omega)) _)⟩
  · subst h1
    show Calls Try.prog _ _ _ fun e w' => e = .returned (.tuple #[TV true true false false, .bool true]) ∧ _
    go_enter Try.func21, Try.ntmps21
    go_wp2
    exact bodyPost_ret (v := .tuple #[TV true true false false, .bool true]) (by simp [results, Try.results21, go_sem]) rfl ⟨rfl, by repeat (first | with_reducible exact Below.refl _ _ | with_reducible refine Below.setCell ?_ (by first | (simp; done) | (simp; omega)) _ | with_reducible refine Below.alloc ?_ (by first | (simp; done) | (simp; omega)) _)⟩
  · subst h1
    show Calls Try.prog _ _ _ fun e w' => e = .returned (.tuple #[TV true true false false, .bool true]) ∧ _
    go_enter Try.func21, Try.ntmps21
    go_wp2
    exact bodyPost_ret (v := .tuple #[TV true true false false, .bool true]) (by simp [results, Try.results21, go_sem]) rfl ⟨rfl, by repeat (first | with_reducible exact Below.refl _ _ | with_reducible refine Below.setCell ?_ (by first | (simp; done) | (simp; omega)) _ | with_reducible refine Below.alloc ?_ (by first | (simp; done) | (simp; omega)) _)⟩
  · subst h1
    show Calls Try.prog _ _ _ fun e w' => e = .returned (.tuple #[TV true false false false, .bool true]) ∧ _
    go_enter Try.func21, Try.ntmps21
    go_wp2
    exact bodyPost_ret (v := .tuple #[TV true false false false, .bool true]) (by simp [results, Try.results21, go_sem]) rfl ⟨rfl, by repeat (first | with_reducible exact Below.refl _ _ | with_reducible refine Below.setCell ?_ (by first | (simp; done) | (simp; omega)) _ | with_reducible refine Below.alloc ?_ (by first | (simp; done) | (simp; omega)) _)⟩
  · subst h1
    show Calls Try.prog _ _ _ fun e w' => e = .returned (.tuple #[TV true false false false, .bool true]) ∧ _
    go_enter Try.func21, Try.ntmps21
    go_wp2
    exact bodyPost_ret (v := .tuple #[TV true false false false, .bool true]) (by simp [results, Try.results21, go_sem]) rfl ⟨rfl, by repeat (first | with_reducible exact Below.refl _ _ | with_reducible refine Below.setCell ?_ (by first | (simp; done) | (simp; omega)) _ | with_reducible refine Below.alloc ?_ (by first | (simp; done) | (simp; omega)) _)⟩
  · subst h1
    show Calls Try.prog _ _ _ fun e w' => e = .returned (.tuple #[TV true false true false, .bool true]) ∧ _
    go_enter Try.func21, Try.ntmps21
    go_wp2
    exact bodyPost_ret (v := .tuple #[TV true false true false, .bool true]) (by simp [results, Try.results21, go_sem]) rfl ⟨rfl, by repeat (first | with_reducible exact Below.refl _ _ | with_reducible refine Below.setCell ?_ (by first | (simp; done) | (simp; omega)) _ | with_reducible refine Below.alloc ?_ (by first | (simp; done) | (simp; omega)) _)⟩
  · subst h1
    show Calls Try.prog _ _ _ fun e w' => e = .returned (.tuple #[TV false false false true, .bool true]) ∧ _
    go_enter Try.func21, Try.ntmps21
    go_wp2
    exact bodyPost_ret (v := .tuple #[TV false false false true, .bool true]) (by simp [results, Try.results21, go_sem]) rfl ⟨rfl, by repeat (first | with_reducible exact Below.refl _ _ | with_reducible refine Below.setCell ?_ (by first | (simp; done) | (simp; omega)) _ | with_reducible refine Below.alloc ?_ (by first | (simp; done) | (simp; omega)) _)⟩
  · subst h1
    show Calls Try.prog _ _ _ fun e w' => e = .returned (.tuple #[TV false false false true, .bool true]) ∧ _
    go_enter Try.func21, Try.ntmps21
    go_wp2
    exact bodyPost_ret (v := .tuple #[TV false false false true, .bool true]) (by simp [results, Try.results21, go_sem]) rfl ⟨rfl, by repeat (first | with_reducible exact Below.refl _ _ | with_reducible refine Below.setCell ?_ (by first | (simp; done) | (simp; omega)) _ | with_reducible refine Below.alloc ?_ (by first | (simp; done) | (simp; omega)) _)⟩
set_option maxHeartbeats 1600000 in
theorem of_no (k : Int) (w : World) (h : k < 1 ∨ 8 < k) : Calls Try.prog 21 #[.int .i64 k] w fun e w' => e = .returned (.tuple #[TV false false false false, .bool false]) ∧ Below w.heap.size w w' := by
  have n1 : (k == 1) = false := beq_eq_false_iff_ne.2 (by omega)
  have n2 : (k == 2) = false := beq_eq_false_iff_ne.2 (by omega)
  have n3 : (k == 3) = false := beq_eq_false_iff_ne.2 (by omega)
  have n4 : (k == 4) = false := beq_eq_false_iff_ne.2 (by omega)
  have n5 : (k == 5) = false := beq_eq_false_iff_ne.2 (by omega)
  have n6 : (k == 6) = false := beq_eq_false_iff_ne.2 (by omega)
  have n7 : (k == 7) = false := beq_eq_false_iff_ne.2 (by omega)
  have n8 : (k == 8) = false := beq_eq_false_iff_ne.2 (by omega)
  clear h
  go_enter Try.func21, Try.ntmps21
  go_wp2
  exact bodyPost_ret (v := .tuple #[TV false false false false, .bool false]) (by simp [results, Try.results21, go_sem]) rfl ⟨rfl, by repeat (first | with_reducible exact Below.refl _ _ | with_reducible refine Below.setCell ?_ (by first | (simp; done) | (simp; omega)) _ | with_reducible refine Below.alloc ?_ (by first | (simp; done) | (simp; omega)) _)⟩
set_option maxHeartbeats 1600000 in
theorem tells_ok (k : Int) (w : World) (h : ¬ (k < 1 ∨ 8 < k)) : Calls Try.prog 25 #[.int .i64 k] w fun e w' => e = .returned (TV (T0 k) (T1 k) (T2 k) (T3 k)) ∧ Below w.heap.size w w' := by
  rcases kinds k with h1 | (h1 | h1 | h1) | (h1 | h1) | h1 | (h1 | h1)
  · exact absurd h1 h
  · subst h1
    show Calls Try.prog _ _ _ fun e w' => e = .returned (TV true true false false) ∧ _
    go_enter Try.func25, Try.ntmps25
    go_wp2
    exact bodyPost_ret (v := TV true true false false) (by simp [results, Try.results25, go_sem]) rfl ⟨rfl, by repeat (first | with_reducible exact Below.refl _ _ | with_reducible refine Below.setCell ?_ (by first | (simp; done) | (simp; omega)) _ | with_reducible refine Below.alloc ?_ (by first | (simp; done) | (simp; omega)) _)⟩
  · subst h1
    show Calls Try.prog _ _ _ fun e w' => e = .returned (TV true true false false) ∧ _
    go_enter Try.func25, Try.ntmps25
    go_wp2
    exact bodyPost_ret (v := TV true true false false) (by simp [results, Try.results25, go_sem]) rfl ⟨rfl, by repeat (first | with_reducible exact Below.refl _ _ | with_reducible refine Below.setCell ?_ (by first | (simp; done) | (simp; omega)) _ | with_reducible refine Below.alloc ?_ (by first | (simp; done) | (simp; omega)) _)⟩
  · subst h1
    show Calls Try.prog _ _ _ fun e w' => e = .returned (TV true true false false) ∧ _
    go_enter Try.func25, Try.ntmps25
    go_wp2
    exact bodyPost_ret (v := TV true true false false) (by simp [results, Try.results25, go_sem]) rfl ⟨rfl, by repeat (first | with_reducible exact Below.refl _ _ | with_reducible refine Below.setCell ?_ (by first | (simp; done) | (simp; omega)) _ | with_reducible refine Below.alloc ?_ (by first | (simp; done) | (simp; omega)) _)⟩
  · subst h1
    show Calls Try.prog _ _ _ fun e w' => e = .returned (TV true false false false) ∧ _
    go_enter Try.func25, Try.ntmps25
    go_wp2
    exact bodyPost_ret (v := TV true false false false) (by simp [results, Try.results25, go_sem]) rfl ⟨rfl, by repeat (first | with_reducible exact Below.refl _ _ | with_reducible refine Below.setCell ?_ (by first | (simp; done) | (simp; omega)) _ | with_reducible refine Below.alloc ?_ (by first | (simp; done) | (simp; omega)) _)⟩
  · subst h1
    show Calls Try.prog _ _ _ fun e w' => e = .returned (TV true false false false) ∧ _
    go_enter Try.func25, Try.ntmps25
    go_wp2
    exact bodyPost_ret (v := TV true false false false) (by simp [results, Try.results25, go_sem]) rfl ⟨rfl, by repeat (first | with_reducible exact Below.refl _ _ | with_reducible refine Below.setCell ?_ (by first | (simp; done) | (simp; omega)) _ | with_reducible refine Below.alloc ?_ (by first | (simp; done) | (simp; omega)) _)⟩
  · subst h1
    show Calls Try.prog _ _ _ fun e w' => e = .returned (TV true false true false) ∧ _
    go_enter Try.func25, Try.ntmps25
    go_wp2
    exact bodyPost_ret (v := TV true false true false) (by simp [results, Try.results25, go_sem]) rfl ⟨rfl, by repeat (first | with_reducible exact Below.refl _ _ | with_reducible refine Below.setCell ?_ (by first | (simp; done) | (simp; omega)) _ | with_reducible refine Below.alloc ?_ (by first | (simp; done) | (simp; omega)) _)⟩
  · subst h1
    show Calls Try.prog _ _ _ fun e w' => e = .returned (TV false false false true) ∧ _
    go_enter Try.func25, Try.ntmps25
    go_wp2
    exact bodyPost_ret (v := TV false false false true) (by simp [results, Try.results25, go_sem]) rfl ⟨rfl, by repeat (first | with_reducible exact Below.refl _ _ | with_reducible refine Below.setCell ?_ (by first | (simp; done) | (simp; omega)) _ | with_reducible refine Below.alloc ?_ (by first | (simp; done) | (simp; omega)) _)⟩
  · subst h1
    show Calls Try.prog _ _ _ fun e w' => e = .returned (TV false false false true) ∧ _
    go_enter Try.func25, Try.ntmps25
    go_wp2
    exact bodyPost_ret (v := TV false false false true) (by simp [results, Try.results25, go_sem]) rfl ⟨rfl, by repeat (first | with_reducible exact Below.refl _ _ | with_reducible refine Below.setCell ?_ (by first | (simp; done) | (simp; omega)) _ | with_reducible refine Below.alloc ?_ (by first | (simp; done) | (simp; omega)) _)⟩
theorem wwithin_any (n m : Int) (w : World) : Calls Try.prog 29 #[.int .i64 n, .int .i64 m] w fun e w' => e = .returned (.bool (decide (0 ≤ n ∧ n ≤ m))) ∧ w = w' := by
  by_cases h1 : 0 ≤ n
  · have hf : decide (n ≤ m) = decide (0 ≤ n ∧ n ≤ m) := by simp [h1]
    have hd : decide (n ≥ 0) = true := decide_eq_true h1
    have hd2 : decide (0 ≤ n) = true := decide_eq_true h1
    rw [← hf]
    clear hf
    go_enter Try.func29, Try.ntmps29
    go_wp2
    go_ret
    exact ⟨rfl, rfl⟩
  · have hf : decide (0 ≤ n ∧ n ≤ m) = false := by simp [h1]
    have hd : decide (n ≥ 0) = false := decide_eq_false h1
    have hd2 : decide (0 ≤ n) = false := decide_eq_false h1
    rw [hf]
    go_enter Try.func29, Try.ntmps29
    go_wp2
    go_ret
    exact ⟨rfl, rfl⟩
set_option maxHeartbeats 3200000 in
theorem spare_A (k ex va vb : Int) (s : St) (n : Int) (w : World) : Calls Try.prog 32 #[TV true true false false, MV k ex va vb s n] w fun e w' => e = .returned (MV 0 0 0 0 s n) ∧ Below w.heap.size w w' := by
  go_enter Try.func32, Try.ntmps32
  go_wp2
  exact bodyPost_ret (v := MV 0 0 0 0 s n) (by simp [results, Try.results32, go_sem]) rfl ⟨rfl, by repeat (first | with_reducible exact Below.refl _ _ | with_reducible refine Below.setCell ?_ (by first | (simp; done) | (simp; omega)) _ | with_reducible refine Below.alloc ?_ (by first | (simp; done) | (simp; omega)) _)⟩
set_option maxHeartbeats 3200000 in
theorem spare_B (k ex va vb : Int) (s : St) (n : Int) (w : World) : Calls Try.prog 32 #[TV true false false false, MV k ex va vb s n] w fun e w' => e = .returned (MV 0 0 va vb s n) ∧ Below w.heap.size w w' := by
  go_enter Try.func32, Try.ntmps32
  go_wp2
  exact bodyPost_ret (v := MV 0 0 va vb s n) (by simp [results, Try.results32, go_sem]) rfl ⟨rfl, by repeat (first | with_reducible exact Below.refl _ _ | with_reducible refine Below.setCell ?_ (by first | (simp; done) | (simp; omega)) _ | with_reducible refine Below.alloc ?_ (by first | (simp; done) | (simp; omega)) _)⟩
set_option maxHeartbeats 3200000 in
theorem spare_C (k ex va vb : Int) (s : St) (n : Int) (w : World) : Calls Try.prog 32 #[TV true false true false, MV k ex va vb s n] w fun e w' => e = .returned (MV 0 0 va vb St.nil n) ∧ Below w.heap.size w w' := by
  go_enter Try.func32, Try.ntmps32
  go_wp2
  exact bodyPost_ret (v := MV 0 0 va vb St.nil n) (by simp [results, Try.results32, go_sem, St.nil]) rfl ⟨rfl, by repeat (first | with_reducible exact Below.refl _ _ | with_reducible refine Below.setCell ?_ (by first | (simp; done) | (simp; omega)) _ | with_reducible refine Below.alloc ?_ (by first | (simp; done) | (simp; omega)) _)⟩
set_option maxHeartbeats 3200000 in
theorem spare_D (k ex va vb : Int) (s : St) (n : Int) (w : World) : Calls Try.prog 32 #[TV false false false true, MV k ex va vb s n] w fun e w' => e = .returned (MV 0 ex va vb s 0) ∧ Below w.heap.size w w' := by
  go_enter Try.func32, Try.ntmps32
  go_wp2
  exact bodyPost_ret (v := MV 0 ex va vb s 0) (by simp [results, Try.results32, go_sem]) rfl ⟨rfl, by repeat (first | with_reducible exact Below.refl _ _ | with_reducible refine Below.setCell ?_ (by first | (simp; done) | (simp; omega)) _ | with_reducible refine Below.alloc ?_ (by first | (simp; done) | (simp; omega)) _)⟩
end Go.Proofs.Ytemfdmbjlmiopaa
