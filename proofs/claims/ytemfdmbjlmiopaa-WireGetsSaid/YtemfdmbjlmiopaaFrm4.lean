/-
  Frames as bytes (chapter 25): the reference's PutFrame.
-/
import Derived.Test.YtemfdmbjlmiopaaFrm3
namespace Go.Proofs.Ytemfdmbjlmiopaa
open Go.RowKit
set_option linter.unusedVariables false
set_option linter.unusedSimpArgs false
set_option maxRecDepth 20000 in
set_option maxHeartbeats 6400000 in
theorem rputf_rng {n fb ft tb tt s a : Int} {b : ByteArray} (w : World) (h : decide (0 ≤ n ∧ n ≤ 1) = false ∨ idB fb ft 1 = false ∨ idB tb tt 0 = false ∨ cntB s = false ∨ cntB a = false) : Calls Try.prog 16 #[FV n fb ft tb tt s a b] w fun e' w' => e' = .returned (.tuple #[.string (fputS ⟨n, fb, ft, tb, tt, s, a, b⟩), .int .i64 (fputE ⟨n, fb, ft, tb, tt, s, a, b⟩)]) ∧ Below w.heap.size w w' := by
  obtain ⟨e1, e2⟩ := fput_bad (fchk_rng (b := b) h) (by decide)
  rw [e1, e2]
  clear e1 e2
  rw [id_word, id_word] at h
  unfold cntB at h
  cases d1 : decide (n < 0)
  case true =>
    clear h
    have HC := Lib.hid (FC.new w ⟨n, fb, ft, tb, tt, s, a, b⟩ 45)
    have HB : Below w.heap.size w (w.alloc (.cells #[.int .i64 n, .int .i64 fb, .int .i64 ft, .int .i64 tb, .int .i64 tt, .int .i64 s, .int .i64 a, .string b] 45)) := (Below.refl _ _).alloc (Nat.le_refl _) _
    obtain ⟨c0, c1, c2, c3, c4, c5, c6, c7⟩ := id HC.out
    go_enter Try.func16, Try.ntmps16
    go_wp2_with fail
    generalize w.alloc (.cells #[.int .i64 n, .int .i64 fb, .int .i64 ft, .int .i64 tb, .int .i64 tt, .int .i64 s, .int .i64 a, .string b] 45) = W1 at *
    go_wp2_with (first | (go_at_call 43; (with_reducible refine (word_any _ _ _).mono ?_); rintro e' W ⟨rfl, rfl⟩))
    go_ret2
    exact ⟨rfl, HB⟩
  cases d2 : decide (1 < n)
  case true =>
    clear h
    have HC := Lib.hid (FC.new w ⟨n, fb, ft, tb, tt, s, a, b⟩ 45)
    have HB : Below w.heap.size w (w.alloc (.cells #[.int .i64 n, .int .i64 fb, .int .i64 ft, .int .i64 tb, .int .i64 tt, .int .i64 s, .int .i64 a, .string b] 45)) := (Below.refl _ _).alloc (Nat.le_refl _) _
    obtain ⟨c0, c1, c2, c3, c4, c5, c6, c7⟩ := id HC.out
    go_enter Try.func16, Try.ntmps16
    go_wp2_with fail
    generalize w.alloc (.cells #[.int .i64 n, .int .i64 fb, .int .i64 ft, .int .i64 tb, .int .i64 tt, .int .i64 s, .int .i64 a, .string b] 45) = W1 at *
    go_wp2_with (first | (go_at_call 43; (with_reducible refine (word_any _ _ _).mono ?_); rintro e' W ⟨rfl, rfl⟩))
    go_ret2
    exact ⟨rfl, HB⟩
  cases v1 : wordB fb 1
  case false =>
    clear h
    have HC := Lib.hid (FC.new w ⟨n, fb, ft, tb, tt, s, a, b⟩ 45)
    have HB : Below w.heap.size w (w.alloc (.cells #[.int .i64 n, .int .i64 fb, .int .i64 ft, .int .i64 tb, .int .i64 tt, .int .i64 s, .int .i64 a, .string b] 45)) := (Below.refl _ _).alloc (Nat.le_refl _) _
    obtain ⟨c0, c1, c2, c3, c4, c5, c6, c7⟩ := id HC.out
    go_enter Try.func16, Try.ntmps16
    go_wp2_with fail
    generalize w.alloc (.cells #[.int .i64 n, .int .i64 fb, .int .i64 ft, .int .i64 tb, .int .i64 tt, .int .i64 s, .int .i64 a, .string b] 45) = W1 at *
    go_wp2_with (first | (go_at_call 43; (with_reducible refine (word_any _ _ _).mono ?_); rintro e' W ⟨rfl, rfl⟩))
    go_ret2
    exact ⟨rfl, HB⟩
  cases v2 : wordB ft 1
  case false =>
    clear h
    have HC := Lib.hid (FC.new w ⟨n, fb, ft, tb, tt, s, a, b⟩ 45)
    have HB : Below w.heap.size w (w.alloc (.cells #[.int .i64 n, .int .i64 fb, .int .i64 ft, .int .i64 tb, .int .i64 tt, .int .i64 s, .int .i64 a, .string b] 45)) := (Below.refl _ _).alloc (Nat.le_refl _) _
    obtain ⟨c0, c1, c2, c3, c4, c5, c6, c7⟩ := id HC.out
    go_enter Try.func16, Try.ntmps16
    go_wp2_with fail
    generalize w.alloc (.cells #[.int .i64 n, .int .i64 fb, .int .i64 ft, .int .i64 tb, .int .i64 tt, .int .i64 s, .int .i64 a, .string b] 45) = W1 at *
    go_wp2_with (first | (go_at_call 43; (with_reducible refine (word_any _ _ _).mono ?_); rintro e' W ⟨rfl, rfl⟩))
    go_ret2
    exact ⟨rfl, HB⟩
  cases v3 : wordB tb 0
  case false =>
    clear h
    have HC := Lib.hid (FC.new w ⟨n, fb, ft, tb, tt, s, a, b⟩ 45)
    have HB : Below w.heap.size w (w.alloc (.cells #[.int .i64 n, .int .i64 fb, .int .i64 ft, .int .i64 tb, .int .i64 tt, .int .i64 s, .int .i64 a, .string b] 45)) := (Below.refl _ _).alloc (Nat.le_refl _) _
    obtain ⟨c0, c1, c2, c3, c4, c5, c6, c7⟩ := id HC.out
    go_enter Try.func16, Try.ntmps16
    go_wp2_with fail
    generalize w.alloc (.cells #[.int .i64 n, .int .i64 fb, .int .i64 ft, .int .i64 tb, .int .i64 tt, .int .i64 s, .int .i64 a, .string b] 45) = W1 at *
    go_wp2_with (first | (go_at_call 43; (with_reducible refine (word_any _ _ _).mono ?_); rintro e' W ⟨rfl, rfl⟩))
    go_ret2
    exact ⟨rfl, HB⟩
  cases v4 : wordB tt 0
  case false =>
    clear h
    have HC := Lib.hid (FC.new w ⟨n, fb, ft, tb, tt, s, a, b⟩ 45)
    have HB : Below w.heap.size w (w.alloc (.cells #[.int .i64 n, .int .i64 fb, .int .i64 ft, .int .i64 tb, .int .i64 tt, .int .i64 s, .int .i64 a, .string b] 45)) := (Below.refl _ _).alloc (Nat.le_refl _) _
    obtain ⟨c0, c1, c2, c3, c4, c5, c6, c7⟩ := id HC.out
    go_enter Try.func16, Try.ntmps16
    go_wp2_with fail
    generalize w.alloc (.cells #[.int .i64 n, .int .i64 fb, .int .i64 ft, .int .i64 tb, .int .i64 tt, .int .i64 s, .int .i64 a, .string b] 45) = W1 at *
    go_wp2_with (first | (go_at_call 43; (with_reducible refine (word_any _ _ _).mono ?_); rintro e' W ⟨rfl, rfl⟩))
    go_ret2
    exact ⟨rfl, HB⟩
  cases d3 : decide (s < 0)
  case true =>
    clear h
    have HC := Lib.hid (FC.new w ⟨n, fb, ft, tb, tt, s, a, b⟩ 45)
    have HB : Below w.heap.size w (w.alloc (.cells #[.int .i64 n, .int .i64 fb, .int .i64 ft, .int .i64 tb, .int .i64 tt, .int .i64 s, .int .i64 a, .string b] 45)) := (Below.refl _ _).alloc (Nat.le_refl _) _
    obtain ⟨c0, c1, c2, c3, c4, c5, c6, c7⟩ := id HC.out
    go_enter Try.func16, Try.ntmps16
    go_wp2_with fail
    generalize w.alloc (.cells #[.int .i64 n, .int .i64 fb, .int .i64 ft, .int .i64 tb, .int .i64 tt, .int .i64 s, .int .i64 a, .string b] 45) = W1 at *
    go_wp2_with (first | (go_at_call 43; (with_reducible refine (word_any _ _ _).mono ?_); rintro e' W ⟨rfl, rfl⟩))
    go_ret2
    exact ⟨rfl, HB⟩
  cases d4 : decide (281474976710656 ≤ s)
  case true =>
    clear h
    have HC := Lib.hid (FC.new w ⟨n, fb, ft, tb, tt, s, a, b⟩ 45)
    have HB : Below w.heap.size w (w.alloc (.cells #[.int .i64 n, .int .i64 fb, .int .i64 ft, .int .i64 tb, .int .i64 tt, .int .i64 s, .int .i64 a, .string b] 45)) := (Below.refl _ _).alloc (Nat.le_refl _) _
    obtain ⟨c0, c1, c2, c3, c4, c5, c6, c7⟩ := id HC.out
    go_enter Try.func16, Try.ntmps16
    go_wp2_with fail
    generalize w.alloc (.cells #[.int .i64 n, .int .i64 fb, .int .i64 ft, .int .i64 tb, .int .i64 tt, .int .i64 s, .int .i64 a, .string b] 45) = W1 at *
    go_wp2_with (first | (go_at_call 43; (with_reducible refine (word_any _ _ _).mono ?_); rintro e' W ⟨rfl, rfl⟩))
    go_ret2
    exact ⟨rfl, HB⟩
  cases d5 : decide (a < 0)
  case true =>
    clear h
    have HC := Lib.hid (FC.new w ⟨n, fb, ft, tb, tt, s, a, b⟩ 45)
    have HB : Below w.heap.size w (w.alloc (.cells #[.int .i64 n, .int .i64 fb, .int .i64 ft, .int .i64 tb, .int .i64 tt, .int .i64 s, .int .i64 a, .string b] 45)) := (Below.refl _ _).alloc (Nat.le_refl _) _
    obtain ⟨c0, c1, c2, c3, c4, c5, c6, c7⟩ := id HC.out
    go_enter Try.func16, Try.ntmps16
    go_wp2_with fail
    generalize w.alloc (.cells #[.int .i64 n, .int .i64 fb, .int .i64 ft, .int .i64 tb, .int .i64 tt, .int .i64 s, .int .i64 a, .string b] 45) = W1 at *
    go_wp2_with (first | (go_at_call 43; (with_reducible refine (word_any _ _ _).mono ?_); rintro e' W ⟨rfl, rfl⟩))
    go_ret2
    exact ⟨rfl, HB⟩
  cases d6 : decide (281474976710656 ≤ a)
  case true =>
    clear h
    have HC := Lib.hid (FC.new w ⟨n, fb, ft, tb, tt, s, a, b⟩ 45)
    have HB : Below w.heap.size w (w.alloc (.cells #[.int .i64 n, .int .i64 fb, .int .i64 ft, .int .i64 tb, .int .i64 tt, .int .i64 s, .int .i64 a, .string b] 45)) := (Below.refl _ _).alloc (Nat.le_refl _) _
    obtain ⟨c0, c1, c2, c3, c4, c5, c6, c7⟩ := id HC.out
    go_enter Try.func16, Try.ntmps16
    go_wp2_with fail
    generalize w.alloc (.cells #[.int .i64 n, .int .i64 fb, .int .i64 ft, .int .i64 tb, .int .i64 tt, .int .i64 s, .int .i64 a, .string b] 45) = W1 at *
    go_wp2_with (first | (go_at_call 43; (with_reducible refine (word_any _ _ _).mono ?_); rintro e' W ⟨rfl, rfl⟩))
    go_ret2
    exact ⟨rfl, HB⟩
  exfalso
  rw [v1, v2, v3, v4] at h
  have d1 := of_decide_eq_false d1
  have d2 := of_decide_eq_false d2
  have d3 := of_decide_eq_false d3
  have d4 := of_decide_eq_false d4
  have d5 := of_decide_eq_false d5
  have d6 := of_decide_eq_false d6
  rcases h with h | h | h | h | h
  · have := of_decide_eq_false h; omega
  · cases h
  · cases h
  · have := of_decide_eq_false h; omega
  · have := of_decide_eq_false h; omega
set_option maxRecDepth 20000 in
set_option maxHeartbeats 6400000 in
theorem rputf_form {n fb ft tb tt a : Int} {b : ByteArray} (w : World) (p1 : decide (0 ≤ n ∧ n ≤ 1) = true) (p2 : idB fb ft 1 = true) (p3 : idB tb tt 0 = true) (p5 : decide (0 ≤ a ∧ a ≤ 281474976710655) = true) (h0 : ¬ b.size = 0) : Calls Try.prog 16 #[FV n fb ft tb tt 0 a b] w fun e' w' => e' = .returned (.tuple #[.string (fputS ⟨n, fb, ft, tb, tt, 0, a, b⟩), .int .i64 (fputE ⟨n, fb, ft, tb, tt, 0, a, b⟩)]) ∧ Below w.heap.size w w' := by
  have hc : fchk ⟨n, fb, ft, tb, tt, 0, a, b⟩ = 4 := by
    unfold fchk
    rw [if_neg (by simp only [p1, p2, p3, cntB, p5]; simp), if_pos ⟨rfl, h0⟩]
  obtain ⟨e1, e2⟩ := fput_bad hc (by decide)
  rw [e1, e2]
  clear e1 e2 hc
  obtain ⟨s, hs⟩ : ∃ s : Int, s = 0 := ⟨_, rfl⟩
  have n1' : (b.toList == []) = false := by
    cases h : b.toList with
    | nil => exfalso; apply h0; have h2 := data_len b; rw [← ByteArray.toList_eq, h] at h2; exact h2.symm
    | cons a l => rfl
  have n2' : b.toList.isEmpty = false := by cases h : b.toList with
    | nil => rw [h] at n1'; cases n1'
    | cons a l => rfl
  have n3' : ¬ b.toList = [] := fun h => by rw [h] at n1'; cases n1'
  have p4 : decide (0 ≤ s ∧ s ≤ 281474976710655) = true := by rw [hs]; decide
  rw [← hs]
  have m0 : (s == 0) = true := by rw [hs]; rfl
  have q1 := of_decide_eq_true p1
  have q4 := of_decide_eq_true p4
  have q5 := of_decide_eq_true p5
  have p2' := p2
  have p3' := p3
  rw [id_word] at p2' p3'
  obtain ⟨v1, v2⟩ := Bool.and_eq_true_iff.1 p2'
  obtain ⟨v3, v4⟩ := Bool.and_eq_true_iff.1 p3'
  clear p2' p3'
  have d1 : decide (n < 0) = false := decide_eq_false (by omega)
  have d2 : decide (1 < n) = false := decide_eq_false (by omega)
  have d3 : decide (s < 0) = false := decide_eq_false (by omega)
  have d4 : decide (281474976710656 ≤ s) = false := decide_eq_false (by omega)
  have d5 : decide (a < 0) = false := decide_eq_false (by omega)
  have d6 : decide (281474976710656 ≤ a) = false := decide_eq_false (by omega)
  clear h0 hs p1 p2 p3 p4 p5 q1 q4 q5
  have HC := Lib.hid (FC.new w ⟨n, fb, ft, tb, tt, s, a, b⟩ 45)
  have HB : Below w.heap.size w (w.alloc (.cells #[.int .i64 n, .int .i64 fb, .int .i64 ft, .int .i64 tb, .int .i64 tt, .int .i64 s, .int .i64 a, .string b] 45)) := (Below.refl _ _).alloc (Nat.le_refl _) _
  obtain ⟨c0, c1, c2, c3, c4, c5, c6, c7⟩ := id HC.out
  go_enter Try.func16, Try.ntmps16
  go_wp2_with fail
  generalize w.alloc (.cells #[.int .i64 n, .int .i64 fb, .int .i64 ft, .int .i64 tb, .int .i64 tt, .int .i64 s, .int .i64 a, .string b] 45) = W1 at *
  go_wp2_with (first | (go_at_call 43; (with_reducible refine (word_any _ _ _).mono ?_); rintro e' W ⟨rfl, rfl⟩))
  go_ret2
  exact ⟨rfl, HB⟩
set_option maxRecDepth 20000 in
set_option maxHeartbeats 6400000 in
theorem rputf_ok {n fb ft tb tt s a : Int} {b : ByteArray} (w : World) (hb : b.size ≤ 100000) (p1 : decide (0 ≤ n ∧ n ≤ 1) = true) (p2 : idB fb ft 1 = true) (p3 : idB tb tt 0 = true) (p4 : decide (0 ≤ s ∧ s ≤ 281474976710655) = true) (p5 : decide (0 ≤ a ∧ a ≤ 281474976710655) = true) (h0 : ¬ (s = 0 ∧ b.size ≠ 0)) (m0 : (s == 0) = false) : Calls Try.prog 16 #[FV n fb ft tb tt s a b] w fun e' w' => e' = .returned (.tuple #[.string (fputS ⟨n, fb, ft, tb, tt, s, a, b⟩), .int .i64 (fputE ⟨n, fb, ft, tb, tt, s, a, b⟩)]) ∧ Below w.heap.size w w' := by
  have hc : fchk ⟨n, fb, ft, tb, tt, s, a, b⟩ = 0 := by
    unfold fchk
    rw [if_neg (by simp only [p1, p2, p3, cntB, p4, p5]; simp), if_neg h0]
  obtain ⟨e1, e2⟩ := fput_good hc
  rw [e1, e2]
  clear e1 e2 hc h0
  have q2 := of_decide_eq_true p2
  have q3 := of_decide_eq_true p3
  have q1 := of_decide_eq_true p1
  have q4 := of_decide_eq_true p4
  have q5 := of_decide_eq_true p5
  have p2' := p2
  have p3' := p3
  rw [id_word] at p2' p3'
  obtain ⟨v1, v2⟩ := Bool.and_eq_true_iff.1 p2'
  obtain ⟨v3, v4⟩ := Bool.and_eq_true_iff.1 p3'
  clear p2' p3'
  have d1 : decide (n < 0) = false := decide_eq_false (by omega)
  have d2 : decide (1 < n) = false := decide_eq_false (by omega)
  have d3 : decide (s < 0) = false := decide_eq_false (by omega)
  have d4 : decide (281474976710656 ≤ s) = false := decide_eq_false (by omega)
  have d5 : decide (a < 0) = false := decide_eq_false (by omega)
  have d6 : decide (281474976710656 ≤ a) = false := decide_eq_false (by omega)
  dsimp only [fhead]
  have hz0 : (⟨#[]⟩ : ByteArray).size = 0 := rfl
  have z1 := putS_size ⟨#[]⟩ n 1
  have C1 := Lib.hid (fun w => rput_any ⟨#[]⟩ n 1 w (by omega) (by omega))
  obtain ⟨t1, ht⟩ : ∃ t, putS ⟨#[]⟩ n 1 = t := ⟨_, rfl⟩
  rw [ht] at C1 z1 ⊢
  clear ht
  have z2 := putS_size t1 fb 4
  have C2 := Lib.hid (fun w => rput_any t1 fb 4 w (by omega) (by omega))
  obtain ⟨t2, ht⟩ : ∃ t, putS t1 fb 4 = t := ⟨_, rfl⟩
  rw [ht] at C2 z2 ⊢
  clear ht
  have z3 := putS_size t2 ft 4
  have C3 := Lib.hid (fun w => rput_any t2 ft 4 w (by omega) (by omega))
  obtain ⟨t3, ht⟩ : ∃ t, putS t2 ft 4 = t := ⟨_, rfl⟩
  rw [ht] at C3 z3 ⊢
  clear ht
  have z4 := putS_size t3 tb 4
  have C4 := Lib.hid (fun w => rput_any t3 tb 4 w (by omega) (by omega))
  obtain ⟨t4, ht⟩ : ∃ t, putS t3 tb 4 = t := ⟨_, rfl⟩
  rw [ht] at C4 z4 ⊢
  clear ht
  have z5 := putS_size t4 tt 4
  have C5 := Lib.hid (fun w => rput_any t4 tt 4 w (by omega) (by omega))
  obtain ⟨t5, ht⟩ : ∃ t, putS t4 tt 4 = t := ⟨_, rfl⟩
  rw [ht] at C5 z5 ⊢
  clear ht
  have z6 := putS_size t5 s 6
  have C6 := Lib.hid (fun w => rput_any t5 s 6 w (by omega) (by omega))
  obtain ⟨t6, ht⟩ : ∃ t, putS t5 s 6 = t := ⟨_, rfl⟩
  rw [ht] at C6 z6 ⊢
  clear ht
  have z7 := putS_size t6 a 6
  have C7 := Lib.hid (fun w => rput_any t6 a 6 w (by omega) (by omega))
  obtain ⟨t7, ht⟩ : ∃ t, putS t6 a 6 = t := ⟨_, rfl⟩
  rw [ht] at C7 z7 ⊢
  clear ht
  have hs9 : ¬ 9223372036854775807 < t7.size + b.size := by omega
  have C8 := Lib.hid (fun w => rsealput_any 9 (t7 ++ b) w (by decide) (by rw [ByteArray.size_append]; omega))
  clear z1 z2 z3 z4 z5 z6 z7 hz0 q1 q2 q3 q4 q5 hb p1 p2 p3 p4 p5
  generalize sealS 9 (t7 ++ b) = X1 at *
  generalize putE 9 (t7 ++ b) = X2 at *
  have HC := Lib.hid (FC.new w ⟨n, fb, ft, tb, tt, s, a, b⟩ 45)
  have HB : Below w.heap.size w (w.alloc (.cells #[.int .i64 n, .int .i64 fb, .int .i64 ft, .int .i64 tb, .int .i64 tt, .int .i64 s, .int .i64 a, .string b] 45)) := (Below.refl _ _).alloc (Nat.le_refl _) _
  obtain ⟨c0, c1, c2, c3, c4, c5, c6, c7⟩ := id HC.out
  go_enter Try.func16, Try.ntmps16
  go_wp2_with fail
  generalize w.alloc (.cells #[.int .i64 n, .int .i64 fb, .int .i64 ft, .int .i64 tb, .int .i64 tt, .int .i64 s, .int .i64 a, .string b] 45) = W1 at *
  go_wp2_with (first | (go_at_call 43; (with_reducible refine (word_any _ _ _).mono ?_); rintro e' W ⟨rfl, rfl⟩))
  refine (C1.out _).mono ?_
  rintro e' W5 ⟨rfl, hA⟩
  replace HC := Lib.hid (HC.out.below hA)
  replace HB := bt HB hA
  replace c0 := bkeep hA c0
  replace c1 := bkeep hA c1
  replace c2 := bkeep hA c2
  replace c3 := bkeep hA c3
  replace c4 := bkeep hA c4
  replace c5 := bkeep hA c5
  replace c6 := bkeep hA c6
  replace c7 := bkeep hA c7
  clear hA
  go_wp2_with fail
  have HG := Lib.hid (IC.new W5 fb ft tb tt 3)
  have hA := (Below.refl W5.heap.size W5).alloc (Nat.le_refl _) (.cells #[.int .i64 fb, .int .i64 ft, .int .i64 tb, .int .i64 tt] 3)
  replace HC := Lib.hid (HC.out.below hA)
  replace HB := Lib.hid (bt HB hA)
  clear hA
  clear c0 c1 c2 c3 c4 c5 c6 c7
  generalize W5.alloc (.cells #[.int .i64 fb, .int .i64 ft, .int .i64 tb, .int .i64 tt] 3) = W6 at *
  generalize W5.heap.size = G at *
  clear C1 d1 d2 d3 d4 d5 d6 v1 v2 v3 v4
  refine wp_loop_rounds 5 ?_
  obtain ⟨g0, g1, g2, g3⟩ := id HG.out
  rw [rounds_succ]
  go_wp2_with fail
  clear g0 g1 g2 g3
  refine (C2.out _).mono ?_
  rintro e' W7 ⟨rfl, hA⟩
  replace HC := Lib.hid (HC.out.below hA)
  replace HG := Lib.hid (HG.out.below hA)
  replace HB := Lib.hid (bt HB.out hA)
  clear hA
  go_wp2_with fail
  obtain ⟨g0, g1, g2, g3⟩ := id HG.out
  rw [rounds_succ]
  go_wp2_with fail
  clear g0 g1 g2 g3
  refine (C3.out _).mono ?_
  rintro e' W8 ⟨rfl, hA⟩
  replace HC := Lib.hid (HC.out.below hA)
  replace HG := Lib.hid (HG.out.below hA)
  replace HB := Lib.hid (bt HB.out hA)
  clear hA
  go_wp2_with fail
  obtain ⟨g0, g1, g2, g3⟩ := id HG.out
  rw [rounds_succ]
  go_wp2_with fail
  clear g0 g1 g2 g3
  refine (C4.out _).mono ?_
  rintro e' W10 ⟨rfl, hA⟩
  replace HC := Lib.hid (HC.out.below hA)
  replace HG := Lib.hid (HG.out.below hA)
  replace HB := Lib.hid (bt HB.out hA)
  clear hA
  go_wp2_with fail
  obtain ⟨g0, g1, g2, g3⟩ := id HG.out
  rw [rounds_succ]
  go_wp2_with fail
  clear g0 g1 g2 g3
  refine (C5.out _).mono ?_
  rintro e' W11 ⟨rfl, hA⟩
  replace HC := Lib.hid (HC.out.below hA)
  replace HG := Lib.hid (HG.out.below hA)
  replace HB := Lib.hid (bt HB.out hA)
  clear hA
  go_wp2_with fail
  rw [rounds_succ]
  clear HG C2 C3 C4 C5
  go_wp2_with fail
  replace HB := Lib.hid HB.out.drew
  have HS : Hid ((fun w' : World => FC w' w.heap.size ⟨n, fb, ft, tb, tt, s, a, b⟩) W11.drew) := HC.out
  refine wp_region_held_drew (S := (fun w' : World => FC w' w.heap.size ⟨n, fb, ft, tb, tt, s, a, b⟩)) (by kernel_rfl) ?_ (fun hHeld => ?_)
  · first | with_reducible exact HS.out
  first | (refine tw (i := 0) (v := ?_) ?_ hHeld ?_; rotate_left; focus (intro w hSw; (try dsimp only at hSw); (try simp only [FC] at hSw); go_simp; (try with_reducible rfl); done)) | refine tn (i := 0) hHeld ?_
  try simp only [Act.put, List.setIfInBounds_toArray, List.set_cons_zero, List.set_cons_succ]
  first | (refine tw (i := 1) (v := ?_) ?_ hHeld ?_; rotate_left; focus (intro w hSw; (try dsimp only at hSw); (try simp only [FC] at hSw); go_simp; (try with_reducible rfl); done)) | refine tn (i := 1) hHeld ?_
  try simp only [Act.put, List.setIfInBounds_toArray, List.set_cons_zero, List.set_cons_succ]
  first | (refine tw (i := 2) (v := ?_) ?_ hHeld ?_; rotate_left; focus (intro w hSw; (try dsimp only at hSw); (try simp only [FC] at hSw); go_simp; (try with_reducible rfl); done)) | refine tn (i := 2) hHeld ?_
  try simp only [Act.put, List.setIfInBounds_toArray, List.set_cons_zero, List.set_cons_succ]
  first | (refine tw (i := 4) (v := ?_) ?_ hHeld ?_; rotate_left; focus (intro w hSw; (try dsimp only at hSw); (try simp only [FC] at hSw); go_simp; (try with_reducible rfl); done)) | refine tn (i := 4) hHeld ?_
  try simp only [Act.put, List.setIfInBounds_toArray, List.set_cons_zero, List.set_cons_succ]
  first | (refine tw (i := 5) (v := ?_) ?_ hHeld ?_; rotate_left; focus (intro w hSw; (try dsimp only at hSw); (try simp only [FC] at hSw); go_simp; (try with_reducible rfl); done)) | refine tn (i := 5) hHeld ?_
  try simp only [Act.put, List.setIfInBounds_toArray, List.set_cons_zero, List.set_cons_succ]
  first | (refine tw (i := 7) (v := ?_) ?_ hHeld ?_; rotate_left; focus (intro w hSw; (try dsimp only at hSw); (try simp only [FC] at hSw); go_simp; (try with_reducible rfl); done)) | refine tn (i := 7) hHeld ?_
  try simp only [Act.put, List.setIfInBounds_toArray, List.set_cons_zero, List.set_cons_succ]
  first | (refine tw (i := 8) (v := ?_) ?_ hHeld ?_; rotate_left; focus (intro w hSw; (try dsimp only at hSw); (try simp only [FC] at hSw); go_simp; (try with_reducible rfl); done)) | refine tn (i := 8) hHeld ?_
  try simp only [Act.put, List.setIfInBounds_toArray, List.set_cons_zero, List.set_cons_succ]
  refine call_next (i := 3) (by kernel_rfl) (by rfl) ?_
  intro o ho K hK
  simp only [List.getElem?_toArray, List.getElem?_cons_succ, List.getElem?_cons_zero, Option.some.injEq] at ho
  subst ho
  first | (fail; refine hK.out _ _ ?_ (fun hHeld => ?_)) | (go_simp; first | (with_reducible refine hK.out _ _ ?_ (fun hHeld => ?_)) | ((first | (go_at_call 26; (with_reducible refine (C6.out _).mono ?_); rintro e' W9 ⟨rfl, hA⟩; replace HS : Hid ((fun w' : World => FC w' w.heap.size ⟨n, fb, ft, tb, tt, s, a, b⟩) W9) := HS.out.below hA; replace HB := Lib.hid (bt HB.out hA); clear hA) | (go_at_call 26; (with_reducible refine (C7.out _).mono ?_); rintro e' W9 ⟨rfl, hA⟩; replace HS : Hid ((fun w' : World => FC w' w.heap.size ⟨n, fb, ft, tb, tt, s, a, b⟩) W9) := HS.out.below hA; replace HB := Lib.hid (bt HB.out hA); clear hA) | (go_at_call 44; (with_reducible refine (C8.out _).mono ?_); rintro e' W9 ⟨rfl, hA⟩; replace HS : Hid ((fun w' : World => FC w' w.heap.size ⟨n, fb, ft, tb, tt, s, a, b⟩) W9) := HS.out.below hA; replace HB := Lib.hid (bt HB.out hA); clear hA)); refine hK.out _ _ ?_ (fun hHeld => ?_)))
  · first | with_reducible exact HS.out
  clear hK K
  try simp only [Act.put, List.setIfInBounds_toArray, List.set_cons_zero, List.set_cons_succ]
  refine call_next (i := 6) (by kernel_rfl) (by rfl) ?_
  intro o ho K hK
  simp only [List.getElem?_toArray, List.getElem?_cons_succ, List.getElem?_cons_zero, Option.some.injEq] at ho
  subst ho
  first | (fail; refine hK.out _ _ ?_ (fun hHeld => ?_)) | (go_simp; first | (with_reducible refine hK.out _ _ ?_ (fun hHeld => ?_)) | ((first | (go_at_call 26; (with_reducible refine (C6.out _).mono ?_); rintro e' W9 ⟨rfl, hA⟩; replace HS : Hid ((fun w' : World => FC w' w.heap.size ⟨n, fb, ft, tb, tt, s, a, b⟩) W9) := HS.out.below hA; replace HB := Lib.hid (bt HB.out hA); clear hA) | (go_at_call 26; (with_reducible refine (C7.out _).mono ?_); rintro e' W9 ⟨rfl, hA⟩; replace HS : Hid ((fun w' : World => FC w' w.heap.size ⟨n, fb, ft, tb, tt, s, a, b⟩) W9) := HS.out.below hA; replace HB := Lib.hid (bt HB.out hA); clear hA) | (go_at_call 44; (with_reducible refine (C8.out _).mono ?_); rintro e' W9 ⟨rfl, hA⟩; replace HS : Hid ((fun w' : World => FC w' w.heap.size ⟨n, fb, ft, tb, tt, s, a, b⟩) W9) := HS.out.below hA; replace HB := Lib.hid (bt HB.out hA); clear hA)); refine hK.out _ _ ?_ (fun hHeld => ?_)))
  · first | with_reducible exact HS.out
  clear hK K
  try simp only [Act.put, List.setIfInBounds_toArray, List.set_cons_zero, List.set_cons_succ]
  first | (refine tw (i := 9) (v := ?_) ?_ hHeld ?_; rotate_left; focus (intro w hSw; (try dsimp only at hSw); (try simp only [FC] at hSw); go_simp; (try with_reducible rfl); done)) | refine tn (i := 9) hHeld ?_
  try simp only [Act.put, List.setIfInBounds_toArray, List.set_cons_zero, List.set_cons_succ]
  refine call_next (i := 10) (by kernel_rfl) (by rfl) ?_
  intro o ho K hK
  simp only [List.getElem?_toArray, List.getElem?_cons_succ, List.getElem?_cons_zero, Option.some.injEq] at ho
  subst ho
  first | (fail; refine hK.out _ _ ?_ (fun hHeld => ?_)) | (go_simp; first | (with_reducible refine hK.out _ _ ?_ (fun hHeld => ?_)) | ((first | (go_at_call 26; (with_reducible refine (C6.out _).mono ?_); rintro e' W9 ⟨rfl, hA⟩; replace HS : Hid ((fun w' : World => FC w' w.heap.size ⟨n, fb, ft, tb, tt, s, a, b⟩) W9) := HS.out.below hA; replace HB := Lib.hid (bt HB.out hA); clear hA) | (go_at_call 26; (with_reducible refine (C7.out _).mono ?_); rintro e' W9 ⟨rfl, hA⟩; replace HS : Hid ((fun w' : World => FC w' w.heap.size ⟨n, fb, ft, tb, tt, s, a, b⟩) W9) := HS.out.below hA; replace HB := Lib.hid (bt HB.out hA); clear hA) | (go_at_call 44; (with_reducible refine (C8.out _).mono ?_); rintro e' W9 ⟨rfl, hA⟩; replace HS : Hid ((fun w' : World => FC w' w.heap.size ⟨n, fb, ft, tb, tt, s, a, b⟩) W9) := HS.out.below hA; replace HB := Lib.hid (bt HB.out hA); clear hA)); refine hK.out _ _ ?_ (fun hHeld => ?_)))
  · first | with_reducible exact HS.out
  clear hK K
  try simp only [Act.put, List.setIfInBounds_toArray, List.set_cons_zero, List.set_cons_succ]
  first | (refine tw (i := 11) (v := ?_) ?_ hHeld ?_; rotate_left; focus (intro w hSw; (try dsimp only at hSw); (try simp only [FC] at hSw); go_simp; (try with_reducible rfl); done)) | refine tn (i := 11) hHeld ?_
  try simp only [Act.put, List.setIfInBounds_toArray, List.set_cons_zero, List.set_cons_succ]
  first | (refine tw (i := 12) (v := ?_) ?_ hHeld ?_; rotate_left; focus (intro w hSw; (try dsimp only at hSw); (try simp only [FC] at hSw); go_simp; (try with_reducible rfl); done)) | refine tn (i := 12) hHeld ?_
  try simp only [Act.put, List.setIfInBounds_toArray, List.set_cons_zero, List.set_cons_succ]
  first | (refine tw (i := 13) (v := ?_) ?_ hHeld ?_; rotate_left; focus (intro w hSw; (try dsimp only at hSw); (try simp only [FC] at hSw); go_simp; (try with_reducible rfl); done)) | refine tn (i := 13) hHeld ?_
  try simp only [Act.put, List.setIfInBounds_toArray, List.set_cons_zero, List.set_cons_succ]
  first | (refine tw (i := 14) (v := ?_) ?_ hHeld ?_; rotate_left; focus (intro w hSw; (try dsimp only at hSw); (try simp only [FC] at hSw); go_simp; (try with_reducible rfl); done)) | refine tn (i := 14) hHeld ?_
  try simp only [Act.put, List.setIfInBounds_toArray, List.set_cons_zero, List.set_cons_succ]
  refine wpAnyH_done (by kernel_rfl) ?_ _
  go_wp2
  go_ret2
  exact ⟨rfl, HB.out⟩
set_option maxRecDepth 20000 in
set_option maxHeartbeats 6400000 in
theorem rputf_ok0 {n fb ft tb tt s a : Int} {b : ByteArray} (w : World) (hb : b.size ≤ 100000) (p1 : decide (0 ≤ n ∧ n ≤ 1) = true) (p2 : idB fb ft 1 = true) (p3 : idB tb tt 0 = true) (p4 : decide (0 ≤ s ∧ s ≤ 281474976710655) = true) (p5 : decide (0 ≤ a ∧ a ≤ 281474976710655) = true) (h0 : ¬ (s = 0 ∧ b.size ≠ 0)) (m0 : (s == 0) = true) (n1' : (b.toList == []) = true) (n2' : b.toList.isEmpty = true) (n3' : b.toList = []) : Calls Try.prog 16 #[FV n fb ft tb tt s a b] w fun e' w' => e' = .returned (.tuple #[.string (fputS ⟨n, fb, ft, tb, tt, s, a, b⟩), .int .i64 (fputE ⟨n, fb, ft, tb, tt, s, a, b⟩)]) ∧ Below w.heap.size w w' := by
  have hc : fchk ⟨n, fb, ft, tb, tt, s, a, b⟩ = 0 := by
    unfold fchk
    rw [if_neg (by simp only [p1, p2, p3, cntB, p4, p5]; simp), if_neg h0]
  obtain ⟨e1, e2⟩ := fput_good hc
  rw [e1, e2]
  clear e1 e2 hc h0
  have q2 := of_decide_eq_true p2
  have q3 := of_decide_eq_true p3
  have q1 := of_decide_eq_true p1
  have q4 := of_decide_eq_true p4
  have q5 := of_decide_eq_true p5
  have p2' := p2
  have p3' := p3
  rw [id_word] at p2' p3'
  obtain ⟨v1, v2⟩ := Bool.and_eq_true_iff.1 p2'
  obtain ⟨v3, v4⟩ := Bool.and_eq_true_iff.1 p3'
  clear p2' p3'
  have d1 : decide (n < 0) = false := decide_eq_false (by omega)
  have d2 : decide (1 < n) = false := decide_eq_false (by omega)
  have d3 : decide (s < 0) = false := decide_eq_false (by omega)
  have d4 : decide (281474976710656 ≤ s) = false := decide_eq_false (by omega)
  have d5 : decide (a < 0) = false := decide_eq_false (by omega)
  have d6 : decide (281474976710656 ≤ a) = false := decide_eq_false (by omega)
  dsimp only [fhead]
  have hz0 : (⟨#[]⟩ : ByteArray).size = 0 := rfl
  have z1 := putS_size ⟨#[]⟩ n 1
  have C1 := Lib.hid (fun w => rput_any ⟨#[]⟩ n 1 w (by omega) (by omega))
  obtain ⟨t1, ht⟩ : ∃ t, putS ⟨#[]⟩ n 1 = t := ⟨_, rfl⟩
  rw [ht] at C1 z1 ⊢
  clear ht
  have z2 := putS_size t1 fb 4
  have C2 := Lib.hid (fun w => rput_any t1 fb 4 w (by omega) (by omega))
  obtain ⟨t2, ht⟩ : ∃ t, putS t1 fb 4 = t := ⟨_, rfl⟩
  rw [ht] at C2 z2 ⊢
  clear ht
  have z3 := putS_size t2 ft 4
  have C3 := Lib.hid (fun w => rput_any t2 ft 4 w (by omega) (by omega))
  obtain ⟨t3, ht⟩ : ∃ t, putS t2 ft 4 = t := ⟨_, rfl⟩
  rw [ht] at C3 z3 ⊢
  clear ht
  have z4 := putS_size t3 tb 4
  have C4 := Lib.hid (fun w => rput_any t3 tb 4 w (by omega) (by omega))
  obtain ⟨t4, ht⟩ : ∃ t, putS t3 tb 4 = t := ⟨_, rfl⟩
  rw [ht] at C4 z4 ⊢
  clear ht
  have z5 := putS_size t4 tt 4
  have C5 := Lib.hid (fun w => rput_any t4 tt 4 w (by omega) (by omega))
  obtain ⟨t5, ht⟩ : ∃ t, putS t4 tt 4 = t := ⟨_, rfl⟩
  rw [ht] at C5 z5 ⊢
  clear ht
  have z6 := putS_size t5 s 6
  have C6 := Lib.hid (fun w => rput_any t5 s 6 w (by omega) (by omega))
  obtain ⟨t6, ht⟩ : ∃ t, putS t5 s 6 = t := ⟨_, rfl⟩
  rw [ht] at C6 z6 ⊢
  clear ht
  have z7 := putS_size t6 a 6
  have C7 := Lib.hid (fun w => rput_any t6 a 6 w (by omega) (by omega))
  obtain ⟨t7, ht⟩ : ∃ t, putS t6 a 6 = t := ⟨_, rfl⟩
  rw [ht] at C7 z7 ⊢
  clear ht
  have hs9 : ¬ 9223372036854775807 < t7.size + b.size := by omega
  have C8 := Lib.hid (fun w => rsealput_any 9 (t7 ++ b) w (by decide) (by rw [ByteArray.size_append]; omega))
  clear z1 z2 z3 z4 z5 z6 z7 hz0 q1 q2 q3 q4 q5 hb p1 p2 p3 p4 p5
  generalize sealS 9 (t7 ++ b) = X1 at *
  generalize putE 9 (t7 ++ b) = X2 at *
  have HC := Lib.hid (FC.new w ⟨n, fb, ft, tb, tt, s, a, b⟩ 45)
  have HB : Below w.heap.size w (w.alloc (.cells #[.int .i64 n, .int .i64 fb, .int .i64 ft, .int .i64 tb, .int .i64 tt, .int .i64 s, .int .i64 a, .string b] 45)) := (Below.refl _ _).alloc (Nat.le_refl _) _
  obtain ⟨c0, c1, c2, c3, c4, c5, c6, c7⟩ := id HC.out
  go_enter Try.func16, Try.ntmps16
  go_wp2_with fail
  generalize w.alloc (.cells #[.int .i64 n, .int .i64 fb, .int .i64 ft, .int .i64 tb, .int .i64 tt, .int .i64 s, .int .i64 a, .string b] 45) = W1 at *
  go_wp2_with (first | (go_at_call 43; (with_reducible refine (word_any _ _ _).mono ?_); rintro e' W ⟨rfl, rfl⟩))
  refine (C1.out _).mono ?_
  rintro e' W5 ⟨rfl, hA⟩
  replace HC := Lib.hid (HC.out.below hA)
  replace HB := bt HB hA
  replace c0 := bkeep hA c0
  replace c1 := bkeep hA c1
  replace c2 := bkeep hA c2
  replace c3 := bkeep hA c3
  replace c4 := bkeep hA c4
  replace c5 := bkeep hA c5
  replace c6 := bkeep hA c6
  replace c7 := bkeep hA c7
  clear hA
  go_wp2_with fail
  have HG := Lib.hid (IC.new W5 fb ft tb tt 3)
  have hA := (Below.refl W5.heap.size W5).alloc (Nat.le_refl _) (.cells #[.int .i64 fb, .int .i64 ft, .int .i64 tb, .int .i64 tt] 3)
  replace HC := Lib.hid (HC.out.below hA)
  replace HB := Lib.hid (bt HB hA)
  clear hA
  clear c0 c1 c2 c3 c4 c5 c6 c7
  generalize W5.alloc (.cells #[.int .i64 fb, .int .i64 ft, .int .i64 tb, .int .i64 tt] 3) = W6 at *
  generalize W5.heap.size = G at *
  clear C1 d1 d2 d3 d4 d5 d6 v1 v2 v3 v4
  refine wp_loop_rounds 5 ?_
  obtain ⟨g0, g1, g2, g3⟩ := id HG.out
  rw [rounds_succ]
  go_wp2_with fail
  clear g0 g1 g2 g3
  refine (C2.out _).mono ?_
  rintro e' W7 ⟨rfl, hA⟩
  replace HC := Lib.hid (HC.out.below hA)
  replace HG := Lib.hid (HG.out.below hA)
  replace HB := Lib.hid (bt HB.out hA)
  clear hA
  go_wp2_with fail
  obtain ⟨g0, g1, g2, g3⟩ := id HG.out
  rw [rounds_succ]
  go_wp2_with fail
  clear g0 g1 g2 g3
  refine (C3.out _).mono ?_
  rintro e' W8 ⟨rfl, hA⟩
  replace HC := Lib.hid (HC.out.below hA)
  replace HG := Lib.hid (HG.out.below hA)
  replace HB := Lib.hid (bt HB.out hA)
  clear hA
  go_wp2_with fail
  obtain ⟨g0, g1, g2, g3⟩ := id HG.out
  rw [rounds_succ]
  go_wp2_with fail
  clear g0 g1 g2 g3
  refine (C4.out _).mono ?_
  rintro e' W10 ⟨rfl, hA⟩
  replace HC := Lib.hid (HC.out.below hA)
  replace HG := Lib.hid (HG.out.below hA)
  replace HB := Lib.hid (bt HB.out hA)
  clear hA
  go_wp2_with fail
  obtain ⟨g0, g1, g2, g3⟩ := id HG.out
  rw [rounds_succ]
  go_wp2_with fail
  clear g0 g1 g2 g3
  refine (C5.out _).mono ?_
  rintro e' W11 ⟨rfl, hA⟩
  replace HC := Lib.hid (HC.out.below hA)
  replace HG := Lib.hid (HG.out.below hA)
  replace HB := Lib.hid (bt HB.out hA)
  clear hA
  go_wp2_with fail
  rw [rounds_succ]
  clear HG C2 C3 C4 C5
  go_wp2_with fail
  replace HB := Lib.hid HB.out.drew
  have HS : Hid ((fun w' : World => FC w' w.heap.size ⟨n, fb, ft, tb, tt, s, a, b⟩) W11.drew) := HC.out
  refine wp_region_held_drew (S := (fun w' : World => FC w' w.heap.size ⟨n, fb, ft, tb, tt, s, a, b⟩)) (by kernel_rfl) ?_ (fun hHeld => ?_)
  · first | with_reducible exact HS.out
  first | (refine tw (i := 0) (v := ?_) ?_ hHeld ?_; rotate_left; focus (intro w hSw; (try dsimp only at hSw); (try simp only [FC] at hSw); go_simp; (try with_reducible rfl); done)) | refine tn (i := 0) hHeld ?_
  try simp only [Act.put, List.setIfInBounds_toArray, List.set_cons_zero, List.set_cons_succ]
  first | (refine tw (i := 1) (v := ?_) ?_ hHeld ?_; rotate_left; focus (intro w hSw; (try dsimp only at hSw); (try simp only [FC] at hSw); go_simp; (try with_reducible rfl); done)) | refine tn (i := 1) hHeld ?_
  try simp only [Act.put, List.setIfInBounds_toArray, List.set_cons_zero, List.set_cons_succ]
  first | (refine tw (i := 2) (v := ?_) ?_ hHeld ?_; rotate_left; focus (intro w hSw; (try dsimp only at hSw); (try simp only [FC] at hSw); go_simp; (try with_reducible rfl); done)) | refine tn (i := 2) hHeld ?_
  try simp only [Act.put, List.setIfInBounds_toArray, List.set_cons_zero, List.set_cons_succ]
  first | (refine tw (i := 4) (v := ?_) ?_ hHeld ?_; rotate_left; focus (intro w hSw; (try dsimp only at hSw); (try simp only [FC] at hSw); go_simp; (try with_reducible rfl); done)) | refine tn (i := 4) hHeld ?_
  try simp only [Act.put, List.setIfInBounds_toArray, List.set_cons_zero, List.set_cons_succ]
  first | (refine tw (i := 5) (v := ?_) ?_ hHeld ?_; rotate_left; focus (intro w hSw; (try dsimp only at hSw); (try simp only [FC] at hSw); go_simp; (try with_reducible rfl); done)) | refine tn (i := 5) hHeld ?_
  try simp only [Act.put, List.setIfInBounds_toArray, List.set_cons_zero, List.set_cons_succ]
  first | (refine tw (i := 7) (v := ?_) ?_ hHeld ?_; rotate_left; focus (intro w hSw; (try dsimp only at hSw); (try simp only [FC] at hSw); go_simp; (try with_reducible rfl); done)) | refine tn (i := 7) hHeld ?_
  try simp only [Act.put, List.setIfInBounds_toArray, List.set_cons_zero, List.set_cons_succ]
  first | (refine tw (i := 8) (v := ?_) ?_ hHeld ?_; rotate_left; focus (intro w hSw; (try dsimp only at hSw); (try simp only [FC] at hSw); go_simp; (try with_reducible rfl); done)) | refine tn (i := 8) hHeld ?_
  try simp only [Act.put, List.setIfInBounds_toArray, List.set_cons_zero, List.set_cons_succ]
  refine call_next (i := 3) (by kernel_rfl) (by rfl) ?_
  intro o ho K hK
  simp only [List.getElem?_toArray, List.getElem?_cons_succ, List.getElem?_cons_zero, Option.some.injEq] at ho
  subst ho
  first | (fail; refine hK.out _ _ ?_ (fun hHeld => ?_)) | (go_simp; first | (with_reducible refine hK.out _ _ ?_ (fun hHeld => ?_)) | ((first | (go_at_call 26; (with_reducible refine (C6.out _).mono ?_); rintro e' W9 ⟨rfl, hA⟩; replace HS : Hid ((fun w' : World => FC w' w.heap.size ⟨n, fb, ft, tb, tt, s, a, b⟩) W9) := HS.out.below hA; replace HB := Lib.hid (bt HB.out hA); clear hA) | (go_at_call 26; (with_reducible refine (C7.out _).mono ?_); rintro e' W9 ⟨rfl, hA⟩; replace HS : Hid ((fun w' : World => FC w' w.heap.size ⟨n, fb, ft, tb, tt, s, a, b⟩) W9) := HS.out.below hA; replace HB := Lib.hid (bt HB.out hA); clear hA) | (go_at_call 44; (with_reducible refine (C8.out _).mono ?_); rintro e' W9 ⟨rfl, hA⟩; replace HS : Hid ((fun w' : World => FC w' w.heap.size ⟨n, fb, ft, tb, tt, s, a, b⟩) W9) := HS.out.below hA; replace HB := Lib.hid (bt HB.out hA); clear hA)); refine hK.out _ _ ?_ (fun hHeld => ?_)))
  · first | with_reducible exact HS.out
  clear hK K
  try simp only [Act.put, List.setIfInBounds_toArray, List.set_cons_zero, List.set_cons_succ]
  refine call_next (i := 6) (by kernel_rfl) (by rfl) ?_
  intro o ho K hK
  simp only [List.getElem?_toArray, List.getElem?_cons_succ, List.getElem?_cons_zero, Option.some.injEq] at ho
  subst ho
  first | (fail; refine hK.out _ _ ?_ (fun hHeld => ?_)) | (go_simp; first | (with_reducible refine hK.out _ _ ?_ (fun hHeld => ?_)) | ((first | (go_at_call 26; (with_reducible refine (C6.out _).mono ?_); rintro e' W9 ⟨rfl, hA⟩; replace HS : Hid ((fun w' : World => FC w' w.heap.size ⟨n, fb, ft, tb, tt, s, a, b⟩) W9) := HS.out.below hA; replace HB := Lib.hid (bt HB.out hA); clear hA) | (go_at_call 26; (with_reducible refine (C7.out _).mono ?_); rintro e' W9 ⟨rfl, hA⟩; replace HS : Hid ((fun w' : World => FC w' w.heap.size ⟨n, fb, ft, tb, tt, s, a, b⟩) W9) := HS.out.below hA; replace HB := Lib.hid (bt HB.out hA); clear hA) | (go_at_call 44; (with_reducible refine (C8.out _).mono ?_); rintro e' W9 ⟨rfl, hA⟩; replace HS : Hid ((fun w' : World => FC w' w.heap.size ⟨n, fb, ft, tb, tt, s, a, b⟩) W9) := HS.out.below hA; replace HB := Lib.hid (bt HB.out hA); clear hA)); refine hK.out _ _ ?_ (fun hHeld => ?_)))
  · first | with_reducible exact HS.out
  clear hK K
  try simp only [Act.put, List.setIfInBounds_toArray, List.set_cons_zero, List.set_cons_succ]
  first | (refine tw (i := 9) (v := ?_) ?_ hHeld ?_; rotate_left; focus (intro w hSw; (try dsimp only at hSw); (try simp only [FC] at hSw); go_simp; (try with_reducible rfl); done)) | refine tn (i := 9) hHeld ?_
  try simp only [Act.put, List.setIfInBounds_toArray, List.set_cons_zero, List.set_cons_succ]
  refine call_next (i := 10) (by kernel_rfl) (by rfl) ?_
  intro o ho K hK
  simp only [List.getElem?_toArray, List.getElem?_cons_succ, List.getElem?_cons_zero, Option.some.injEq] at ho
  subst ho
  first | (fail; refine hK.out _ _ ?_ (fun hHeld => ?_)) | (go_simp; first | (with_reducible refine hK.out _ _ ?_ (fun hHeld => ?_)) | ((first | (go_at_call 26; (with_reducible refine (C6.out _).mono ?_); rintro e' W9 ⟨rfl, hA⟩; replace HS : Hid ((fun w' : World => FC w' w.heap.size ⟨n, fb, ft, tb, tt, s, a, b⟩) W9) := HS.out.below hA; replace HB := Lib.hid (bt HB.out hA); clear hA) | (go_at_call 26; (with_reducible refine (C7.out _).mono ?_); rintro e' W9 ⟨rfl, hA⟩; replace HS : Hid ((fun w' : World => FC w' w.heap.size ⟨n, fb, ft, tb, tt, s, a, b⟩) W9) := HS.out.below hA; replace HB := Lib.hid (bt HB.out hA); clear hA) | (go_at_call 44; (with_reducible refine (C8.out _).mono ?_); rintro e' W9 ⟨rfl, hA⟩; replace HS : Hid ((fun w' : World => FC w' w.heap.size ⟨n, fb, ft, tb, tt, s, a, b⟩) W9) := HS.out.below hA; replace HB := Lib.hid (bt HB.out hA); clear hA)); refine hK.out _ _ ?_ (fun hHeld => ?_)))
  · first | with_reducible exact HS.out
  clear hK K
  try simp only [Act.put, List.setIfInBounds_toArray, List.set_cons_zero, List.set_cons_succ]
  first | (refine tw (i := 11) (v := ?_) ?_ hHeld ?_; rotate_left; focus (intro w hSw; (try dsimp only at hSw); (try simp only [FC] at hSw); go_simp; (try with_reducible rfl); done)) | refine tn (i := 11) hHeld ?_
  try simp only [Act.put, List.setIfInBounds_toArray, List.set_cons_zero, List.set_cons_succ]
  first | (refine tw (i := 12) (v := ?_) ?_ hHeld ?_; rotate_left; focus (intro w hSw; (try dsimp only at hSw); (try simp only [FC] at hSw); go_simp; (try with_reducible rfl); done)) | refine tn (i := 12) hHeld ?_
  try simp only [Act.put, List.setIfInBounds_toArray, List.set_cons_zero, List.set_cons_succ]
  first | (refine tw (i := 13) (v := ?_) ?_ hHeld ?_; rotate_left; focus (intro w hSw; (try dsimp only at hSw); (try simp only [FC] at hSw); go_simp; (try with_reducible rfl); done)) | refine tn (i := 13) hHeld ?_
  try simp only [Act.put, List.setIfInBounds_toArray, List.set_cons_zero, List.set_cons_succ]
  first | (refine tw (i := 14) (v := ?_) ?_ hHeld ?_; rotate_left; focus (intro w hSw; (try dsimp only at hSw); (try simp only [FC] at hSw); go_simp; (try with_reducible rfl); done)) | refine tn (i := 14) hHeld ?_
  try simp only [Act.put, List.setIfInBounds_toArray, List.set_cons_zero, List.set_cons_succ]
  refine wpAnyH_done (by kernel_rfl) ?_ _
  go_wp2
  go_ret2
  exact ⟨rfl, HB.out⟩
theorem rputf_any {n fb ft tb tt s a : Int} {b : ByteArray} (w : World) (hb : b.size ≤ 100000) : Calls Try.prog 16 #[FV n fb ft tb tt s a b] w fun e' w' => e' = .returned (.tuple #[.string (fputS ⟨n, fb, ft, tb, tt, s, a, b⟩), .int .i64 (fputE ⟨n, fb, ft, tb, tt, s, a, b⟩)]) ∧ Below w.heap.size w w' := by
  by_cases h : decide (0 ≤ n ∧ n ≤ 1) = false ∨ idB fb ft 1 = false ∨ idB tb tt 0 = false ∨ cntB s = false ∨ cntB a = false
  · exact rputf_rng w h
  · simp only [not_or, Bool.not_eq_false] at h
    obtain ⟨p1, p2, p3, p4, p5⟩ := h
    by_cases hs : s = 0
    · subst hs
      by_cases hz : b.size = 0
      · have := size0 hz
        subst this
        have hl : (⟨#[]⟩ : ByteArray).toList = [] := by rw [ByteArray.toList_eq]
        exact rputf_ok0 w hb p1 p2 p3 p4 p5 (fun h => h.2 rfl) rfl (by rw [hl]; rfl) (by rw [hl]; rfl) hl
      · exact rputf_form w p1 p2 p3 p5 hz
    · exact rputf_ok w hb p1 p2 p3 p4 p5 (fun h => hs h.1) (beq_eq_false_iff_ne.2 hs)
end Go.Proofs.Ytemfdmbjlmiopaa
