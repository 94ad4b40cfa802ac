/-
  Messages as bytes (chapter 25): the reference's check. (genwr.py prints it.)
-/
import Derived.Test.YtemfdmbjlmiopaaWire2
namespace Go.Proofs.Ytemfdmbjlmiopaa
open Go.RowKit
set_option linter.unusedVariables false
set_option linter.unusedSimpArgs false
abbrev SS0 : Value := .agg #[.int .i64 0, .int .i64 0, .int .i64 0, .string ⟨#[]⟩, .int .i64 0, .int .i64 0, .string ⟨#[]⟩, .int .i64 0, .int .i64 0, .string ⟨#[]⟩]
set_option maxHeartbeats 1600000 in
theorem s0ne_z (W : World) : (binOp .neq 27 SS0 SS0).run Try.prog W = .ok (.bool false) W := by
  simp [go_sem]
set_option maxHeartbeats 1600000 in
theorem s0ne_n (s : St) (h : ¬ szB s = true) (W : World) : (binOp .neq 27 s.v SS0).run Try.prog W = .ok (.bool true) W := by
  simp [go_sem]
  simp [szB] at h
  exact h
theorem s0ne_y (s : St) (h : szB s = true) (W : World) : (binOp .neq 27 s.v SS0).run Try.prog W = .ok (.bool false) W := by
  rw [sz_nil h]
  exact s0ne_z W
theorem v0ne_n {a b : Int} (h : ¬ (a = 0 ∧ b = 0)) (W : World) : (binOp .neq 23 (VV a b) (VV 0 0)).run Try.prog W = .ok (.bool true) W := by
  refine vne_at (x := false) ?_ W
  cases g : (decide (a = 0) && decide (b = 0))
  · rfl
  · simp at g; exact absurd g h
theorem v0ne_y {a b : Int} (h : a = 0 ∧ b = 0) (W : World) : (binOp .neq 23 (VV a b) (VV 0 0)).run Try.prog W = .ok (.bool false) W := by
  refine vne_at (x := true) ?_ W
  simp [h.1, h.2]
set_option maxRecDepth 20000 in
set_option maxHeartbeats 3200000 in
theorem rwchk_x {k ex va vb : Int} {s : St} {n : Int} (hk : k < 1 ∨ 8 < k) (w : World) : Calls Try.prog 12 #[MV k ex va vb s n] w fun e' w' => e' = .returned (.int .i64 7) ∧ Below w.heap.size w w' := by
  have HC := Lib.hid (MC.new w k ex va vb s n 29)
  have HB : Below w.heap.size w (w.alloc (.cells #[.int .i64 k, .int .i64 ex, .int .i64 va, .int .i64 vb, .int .i64 s.k, .int .i64 s.a, .int .i64 s.b, .string s.d, .int .i64 s.x.p, .int .i64 s.x.q, .string s.x.d, .int .i64 s.y.p, .int .i64 s.y.q, .string s.y.d, .int .i64 n] 29)) := (Below.refl _ _).alloc (Nat.le_refl _) _
  obtain ⟨c0, c1, c2, c3, c4, c5, c6, c7, c8, c9, c10, c11, c12, c13, c14⟩ := id HC.out
  by_cases h1 : k < 1
  · have d1 : decide (k < 1) = true := decide_eq_true h1
    clear h1 hk
    go_enter Try.func12, Try.ntmps12
    go_wp2_with fail
    go_ret
    exact ⟨rfl, HB⟩
  · have d1 : decide (k < 1) = false := decide_eq_false h1
    have d2 : decide (8 < k) = true := decide_eq_true (by omega)
    clear h1 hk
    go_enter Try.func12, Try.ntmps12
    go_wp2_with fail
    go_ret
    exact ⟨rfl, HB⟩
set_option maxRecDepth 20000 in
set_option maxHeartbeats 6400000 in
theorem rwchk_A {k ex va vb : Int} {s : St} {n E : Int} (hk : k = 1 ∨ k = 4 ∨ k = 5) (h : mchk ⟨k, ex, va, vb, s, n⟩ = E) (w : World) : Calls Try.prog 12 #[MV k ex va vb s n] w fun e' w' => e' = .returned (.int .i64 E) ∧ Below w.heap.size w w' := by
  rw [mchk_A (m := ⟨k, ex, va, vb, s, n⟩) hk] at h
  simp only at h
  have CO := Lib.hid (fun w => tells_ok k w (by omega))
  obtain ⟨t0, t1, t2, t3⟩ := tA hk
  rw [t0, t1, t2, t3] at CO
  have k8 : (k == 8) = false := beq_eq_false_iff_ne.2 (by omega)
  have dk1 : decide (k < 1) = false := decide_eq_false (by omega)
  have dk2 : decide (8 < k) = false := decide_eq_false (by omega)
  clear t0 t1 t2 t3 hk
  by_cases g0 : ex < 0
  case pos =>
    rw [if_pos (by omega)] at h
    subst h
    have d1 : decide (ex < 0) = true := decide_eq_true g0
    clear g0
    have HC := Lib.hid (MC.new w k ex va vb s n 29)
    have HB : Below w.heap.size w (w.alloc (.cells #[.int .i64 k, .int .i64 ex, .int .i64 va, .int .i64 vb, .int .i64 s.k, .int .i64 s.a, .int .i64 s.b, .string s.d, .int .i64 s.x.p, .int .i64 s.x.q, .string s.x.d, .int .i64 s.y.p, .int .i64 s.y.q, .string s.y.d, .int .i64 n] 29)) := (Below.refl _ _).alloc (Nat.le_refl _) _
    obtain ⟨c0, c1, c2, c3, c4, c5, c6, c7, c8, c9, c10, c11, c12, c13, c14⟩ := id HC.out
    go_enter Try.func12, Try.ntmps12
    go_wp2_with fail
    clear c0 c1 c2 c3 c4 c5 c6 c7 c8 c9 c10 c11 c12 c13 c14
    generalize w.alloc (.cells #[.int .i64 k, .int .i64 ex, .int .i64 va, .int .i64 vb, .int .i64 s.k, .int .i64 s.a, .int .i64 s.b, .string s.d, .int .i64 s.x.p, .int .i64 s.x.q, .string s.x.d, .int .i64 s.y.p, .int .i64 s.y.q, .string s.y.d, .int .i64 n] 29) = W1 at *
    refine (CO.out _).mono ?_
    rintro e' W2 ⟨rfl, hA⟩
    replace HC := Lib.hid (HC.out.below hA)
    replace HB := bt HB hA
    clear hA CO
    obtain ⟨e0, e1, e2, e3⟩ := held4b (w := W2) (a := true) (b := true) (c := false) (d := false) 58
    have hA := (Below.refl W2.heap.size W2).alloc (Nat.le_refl _) (.cells #[.bool true, .bool true, .bool false, .bool false] 58)
    replace HC := Lib.hid (HC.out.below hA)
    replace HB := bt HB hA
    clear hA
    obtain ⟨c0, c1, c2, c3, c4, c5, c6, c7, c8, c9, c10, c11, c12, c13, c14⟩ := id HC.out
    clear HC
    go_wp2_with fail
    go_ret
    exact ⟨rfl, HB⟩
  have d1 : decide (ex < 0) = false := decide_eq_false g0
  by_cases g1 : 24 ≤ ex
  case pos =>
    rw [if_pos (by omega)] at h
    subst h
    have d2 : decide (24 ≤ ex) = true := decide_eq_true g1
    clear g0 g1
    have HC := Lib.hid (MC.new w k ex va vb s n 29)
    have HB : Below w.heap.size w (w.alloc (.cells #[.int .i64 k, .int .i64 ex, .int .i64 va, .int .i64 vb, .int .i64 s.k, .int .i64 s.a, .int .i64 s.b, .string s.d, .int .i64 s.x.p, .int .i64 s.x.q, .string s.x.d, .int .i64 s.y.p, .int .i64 s.y.q, .string s.y.d, .int .i64 n] 29)) := (Below.refl _ _).alloc (Nat.le_refl _) _
    obtain ⟨c0, c1, c2, c3, c4, c5, c6, c7, c8, c9, c10, c11, c12, c13, c14⟩ := id HC.out
    go_enter Try.func12, Try.ntmps12
    go_wp2_with fail
    clear c0 c1 c2 c3 c4 c5 c6 c7 c8 c9 c10 c11 c12 c13 c14
    generalize w.alloc (.cells #[.int .i64 k, .int .i64 ex, .int .i64 va, .int .i64 vb, .int .i64 s.k, .int .i64 s.a, .int .i64 s.b, .string s.d, .int .i64 s.x.p, .int .i64 s.x.q, .string s.x.d, .int .i64 s.y.p, .int .i64 s.y.q, .string s.y.d, .int .i64 n] 29) = W1 at *
    refine (CO.out _).mono ?_
    rintro e' W2 ⟨rfl, hA⟩
    replace HC := Lib.hid (HC.out.below hA)
    replace HB := bt HB hA
    clear hA CO
    obtain ⟨e0, e1, e2, e3⟩ := held4b (w := W2) (a := true) (b := true) (c := false) (d := false) 58
    have hA := (Below.refl W2.heap.size W2).alloc (Nat.le_refl _) (.cells #[.bool true, .bool true, .bool false, .bool false] 58)
    replace HC := Lib.hid (HC.out.below hA)
    replace HB := bt HB hA
    clear hA
    obtain ⟨c0, c1, c2, c3, c4, c5, c6, c7, c8, c9, c10, c11, c12, c13, c14⟩ := id HC.out
    clear HC
    go_wp2_with fail
    go_ret
    exact ⟨rfl, HB⟩
  have d2 : decide (24 ≤ ex) = false := decide_eq_false g1
  cases g2 : rightB va vb
  case false =>
    rw [if_pos (.inr (.inr g2))] at h
    subst h
    have C2 := Lib.hid (fun w => rright_at g2 w)
    clear g0 g1 g2
    have HC := Lib.hid (MC.new w k ex va vb s n 29)
    have HB : Below w.heap.size w (w.alloc (.cells #[.int .i64 k, .int .i64 ex, .int .i64 va, .int .i64 vb, .int .i64 s.k, .int .i64 s.a, .int .i64 s.b, .string s.d, .int .i64 s.x.p, .int .i64 s.x.q, .string s.x.d, .int .i64 s.y.p, .int .i64 s.y.q, .string s.y.d, .int .i64 n] 29)) := (Below.refl _ _).alloc (Nat.le_refl _) _
    obtain ⟨c0, c1, c2, c3, c4, c5, c6, c7, c8, c9, c10, c11, c12, c13, c14⟩ := id HC.out
    go_enter Try.func12, Try.ntmps12
    go_wp2_with fail
    clear c0 c1 c2 c3 c4 c5 c6 c7 c8 c9 c10 c11 c12 c13 c14
    generalize w.alloc (.cells #[.int .i64 k, .int .i64 ex, .int .i64 va, .int .i64 vb, .int .i64 s.k, .int .i64 s.a, .int .i64 s.b, .string s.d, .int .i64 s.x.p, .int .i64 s.x.q, .string s.x.d, .int .i64 s.y.p, .int .i64 s.y.q, .string s.y.d, .int .i64 n] 29) = W1 at *
    refine (CO.out _).mono ?_
    rintro e' W2 ⟨rfl, hA⟩
    replace HC := Lib.hid (HC.out.below hA)
    replace HB := bt HB hA
    clear hA CO
    obtain ⟨e0, e1, e2, e3⟩ := held4b (w := W2) (a := true) (b := true) (c := false) (d := false) 58
    have hA := (Below.refl W2.heap.size W2).alloc (Nat.le_refl _) (.cells #[.bool true, .bool true, .bool false, .bool false] 58)
    replace HC := Lib.hid (HC.out.below hA)
    replace HB := bt HB hA
    clear hA
    obtain ⟨c0, c1, c2, c3, c4, c5, c6, c7, c8, c9, c10, c11, c12, c13, c14⟩ := id HC.out
    clear HC
    go_wp2_with (first | (go_at_call 33; (with_reducible refine (C2.out _).mono ?_); clear C2; rintro e' w5 ⟨rfl, hA⟩; replace c0 := bkeep hA c0; replace c1 := bkeep hA c1; replace c2 := bkeep hA c2; replace c3 := bkeep hA c3; replace c4 := bkeep hA c4; replace c5 := bkeep hA c5; replace c6 := bkeep hA c6; replace c7 := bkeep hA c7; replace c8 := bkeep hA c8; replace c9 := bkeep hA c9; replace c10 := bkeep hA c10; replace c11 := bkeep hA c11; replace c12 := bkeep hA c12; replace c13 := bkeep hA c13; replace c14 := bkeep hA c14; replace e0 := bkeep hA e0; replace e1 := bkeep hA e1; replace e2 := bkeep hA e2; replace e3 := bkeep hA e3; replace HB := bt HB hA; clear hA))
    go_ret
    exact ⟨rfl, HB⟩
  have C2 := Lib.hid (fun w => rright_at g2 w)
  by_cases g3 : ¬ szB s = true
  case pos =>
    have hE : E = 4 := by rw [← h]; simp_all; try omega
    subst hE
    clear h
    have qs := fun W => s0ne_n s g3 W
    clear g0 g1 g2 g3
    have HC := Lib.hid (MC.new w k ex va vb s n 29)
    have HB : Below w.heap.size w (w.alloc (.cells #[.int .i64 k, .int .i64 ex, .int .i64 va, .int .i64 vb, .int .i64 s.k, .int .i64 s.a, .int .i64 s.b, .string s.d, .int .i64 s.x.p, .int .i64 s.x.q, .string s.x.d, .int .i64 s.y.p, .int .i64 s.y.q, .string s.y.d, .int .i64 n] 29)) := (Below.refl _ _).alloc (Nat.le_refl _) _
    obtain ⟨c0, c1, c2, c3, c4, c5, c6, c7, c8, c9, c10, c11, c12, c13, c14⟩ := id HC.out
    go_enter Try.func12, Try.ntmps12
    go_wp2_with fail
    clear c0 c1 c2 c3 c4 c5 c6 c7 c8 c9 c10 c11 c12 c13 c14
    generalize w.alloc (.cells #[.int .i64 k, .int .i64 ex, .int .i64 va, .int .i64 vb, .int .i64 s.k, .int .i64 s.a, .int .i64 s.b, .string s.d, .int .i64 s.x.p, .int .i64 s.x.q, .string s.x.d, .int .i64 s.y.p, .int .i64 s.y.q, .string s.y.d, .int .i64 n] 29) = W1 at *
    refine (CO.out _).mono ?_
    rintro e' W2 ⟨rfl, hA⟩
    replace HC := Lib.hid (HC.out.below hA)
    replace HB := bt HB hA
    clear hA CO
    obtain ⟨e0, e1, e2, e3⟩ := held4b (w := W2) (a := true) (b := true) (c := false) (d := false) 58
    have hA := (Below.refl W2.heap.size W2).alloc (Nat.le_refl _) (.cells #[.bool true, .bool true, .bool false, .bool false] 58)
    replace HC := Lib.hid (HC.out.below hA)
    replace HB := bt HB hA
    clear hA
    obtain ⟨c0, c1, c2, c3, c4, c5, c6, c7, c8, c9, c10, c11, c12, c13, c14⟩ := id HC.out
    clear HC
    go_wp2_with (first | (go_at_call 33; (with_reducible refine (C2.out _).mono ?_); clear C2; rintro e' w5 ⟨rfl, hA⟩; replace c0 := bkeep hA c0; replace c1 := bkeep hA c1; replace c2 := bkeep hA c2; replace c3 := bkeep hA c3; replace c4 := bkeep hA c4; replace c5 := bkeep hA c5; replace c6 := bkeep hA c6; replace c7 := bkeep hA c7; replace c8 := bkeep hA c8; replace c9 := bkeep hA c9; replace c10 := bkeep hA c10; replace c11 := bkeep hA c11; replace c12 := bkeep hA c12; replace c13 := bkeep hA c13; replace c14 := bkeep hA c14; replace e0 := bkeep hA e0; replace e1 := bkeep hA e1; replace e2 := bkeep hA e2; replace e3 := bkeep hA e3; replace HB := bt HB hA; clear hA))
    go_ret
    exact ⟨rfl, HB⟩
  have qs := fun W => s0ne_y s (Classical.not_not.1 g3) W
  by_cases g4 : n ≠ 0
  case pos =>
    have hE : E = 4 := by rw [← h]; simp_all; try omega
    subst hE
    clear h
    have dn : (n != 0) = true := bne_iff_ne.2 g4
    clear g0 g1 g2 g3 g4
    have HC := Lib.hid (MC.new w k ex va vb s n 29)
    have HB : Below w.heap.size w (w.alloc (.cells #[.int .i64 k, .int .i64 ex, .int .i64 va, .int .i64 vb, .int .i64 s.k, .int .i64 s.a, .int .i64 s.b, .string s.d, .int .i64 s.x.p, .int .i64 s.x.q, .string s.x.d, .int .i64 s.y.p, .int .i64 s.y.q, .string s.y.d, .int .i64 n] 29)) := (Below.refl _ _).alloc (Nat.le_refl _) _
    obtain ⟨c0, c1, c2, c3, c4, c5, c6, c7, c8, c9, c10, c11, c12, c13, c14⟩ := id HC.out
    go_enter Try.func12, Try.ntmps12
    go_wp2_with fail
    clear c0 c1 c2 c3 c4 c5 c6 c7 c8 c9 c10 c11 c12 c13 c14
    generalize w.alloc (.cells #[.int .i64 k, .int .i64 ex, .int .i64 va, .int .i64 vb, .int .i64 s.k, .int .i64 s.a, .int .i64 s.b, .string s.d, .int .i64 s.x.p, .int .i64 s.x.q, .string s.x.d, .int .i64 s.y.p, .int .i64 s.y.q, .string s.y.d, .int .i64 n] 29) = W1 at *
    refine (CO.out _).mono ?_
    rintro e' W2 ⟨rfl, hA⟩
    replace HC := Lib.hid (HC.out.below hA)
    replace HB := bt HB hA
    clear hA CO
    obtain ⟨e0, e1, e2, e3⟩ := held4b (w := W2) (a := true) (b := true) (c := false) (d := false) 58
    have hA := (Below.refl W2.heap.size W2).alloc (Nat.le_refl _) (.cells #[.bool true, .bool true, .bool false, .bool false] 58)
    replace HC := Lib.hid (HC.out.below hA)
    replace HB := bt HB hA
    clear hA
    obtain ⟨c0, c1, c2, c3, c4, c5, c6, c7, c8, c9, c10, c11, c12, c13, c14⟩ := id HC.out
    clear HC
    go_wp2_with (first | (go_at_call 33; (with_reducible refine (C2.out _).mono ?_); clear C2; rintro e' w5 ⟨rfl, hA⟩; replace c0 := bkeep hA c0; replace c1 := bkeep hA c1; replace c2 := bkeep hA c2; replace c3 := bkeep hA c3; replace c4 := bkeep hA c4; replace c5 := bkeep hA c5; replace c6 := bkeep hA c6; replace c7 := bkeep hA c7; replace c8 := bkeep hA c8; replace c9 := bkeep hA c9; replace c10 := bkeep hA c10; replace c11 := bkeep hA c11; replace c12 := bkeep hA c12; replace c13 := bkeep hA c13; replace c14 := bkeep hA c14; replace e0 := bkeep hA e0; replace e1 := bkeep hA e1; replace e2 := bkeep hA e2; replace e3 := bkeep hA e3; replace HB := bt HB hA; clear hA))
    go_ret
    exact ⟨rfl, HB⟩
  have dn : (n != 0) = false := bne_eq_false_iff_eq.2 (Classical.not_not.1 g4)
  have hE : E = 0 := by rw [← h]; simp_all; try omega
  subst hE
  clear h g0 g1 g2 g3 g4
  have HC := Lib.hid (MC.new w k ex va vb s n 29)
  have HB : Below w.heap.size w (w.alloc (.cells #[.int .i64 k, .int .i64 ex, .int .i64 va, .int .i64 vb, .int .i64 s.k, .int .i64 s.a, .int .i64 s.b, .string s.d, .int .i64 s.x.p, .int .i64 s.x.q, .string s.x.d, .int .i64 s.y.p, .int .i64 s.y.q, .string s.y.d, .int .i64 n] 29)) := (Below.refl _ _).alloc (Nat.le_refl _) _
  obtain ⟨c0, c1, c2, c3, c4, c5, c6, c7, c8, c9, c10, c11, c12, c13, c14⟩ := id HC.out
  go_enter Try.func12, Try.ntmps12
  go_wp2_with fail
  clear c0 c1 c2 c3 c4 c5 c6 c7 c8 c9 c10 c11 c12 c13 c14
  generalize w.alloc (.cells #[.int .i64 k, .int .i64 ex, .int .i64 va, .int .i64 vb, .int .i64 s.k, .int .i64 s.a, .int .i64 s.b, .string s.d, .int .i64 s.x.p, .int .i64 s.x.q, .string s.x.d, .int .i64 s.y.p, .int .i64 s.y.q, .string s.y.d, .int .i64 n] 29) = W1 at *
  refine (CO.out _).mono ?_
  rintro e' W2 ⟨rfl, hA⟩
  replace HC := Lib.hid (HC.out.below hA)
  replace HB := bt HB hA
  clear hA CO
  obtain ⟨e0, e1, e2, e3⟩ := held4b (w := W2) (a := true) (b := true) (c := false) (d := false) 58
  have hA := (Below.refl W2.heap.size W2).alloc (Nat.le_refl _) (.cells #[.bool true, .bool true, .bool false, .bool false] 58)
  replace HC := Lib.hid (HC.out.below hA)
  replace HB := bt HB hA
  clear hA
  obtain ⟨c0, c1, c2, c3, c4, c5, c6, c7, c8, c9, c10, c11, c12, c13, c14⟩ := id HC.out
  clear HC
  go_wp2_with (first | (go_at_call 33; (with_reducible refine (C2.out _).mono ?_); clear C2; rintro e' w5 ⟨rfl, hA⟩; replace c0 := bkeep hA c0; replace c1 := bkeep hA c1; replace c2 := bkeep hA c2; replace c3 := bkeep hA c3; replace c4 := bkeep hA c4; replace c5 := bkeep hA c5; replace c6 := bkeep hA c6; replace c7 := bkeep hA c7; replace c8 := bkeep hA c8; replace c9 := bkeep hA c9; replace c10 := bkeep hA c10; replace c11 := bkeep hA c11; replace c12 := bkeep hA c12; replace c13 := bkeep hA c13; replace c14 := bkeep hA c14; replace e0 := bkeep hA e0; replace e1 := bkeep hA e1; replace e2 := bkeep hA e2; replace e3 := bkeep hA e3; replace HB := bt HB hA; clear hA))
  go_ret
  exact ⟨rfl, HB⟩
set_option maxRecDepth 20000 in
set_option maxHeartbeats 6400000 in
theorem rwchk_B {k ex va vb : Int} {s : St} {n E : Int} (hk : k = 2 ∨ k = 6) (h : mchk ⟨k, ex, va, vb, s, n⟩ = E) (w : World) : Calls Try.prog 12 #[MV k ex va vb s n] w fun e' w' => e' = .returned (.int .i64 E) ∧ Below w.heap.size w w' := by
  rw [mchk_B (m := ⟨k, ex, va, vb, s, n⟩) hk] at h
  simp only at h
  have CO := Lib.hid (fun w => tells_ok k w (by omega))
  obtain ⟨t0, t1, t2, t3⟩ := tB hk
  rw [t0, t1, t2, t3] at CO
  have k8 : (k == 8) = false := beq_eq_false_iff_ne.2 (by omega)
  have dk1 : decide (k < 1) = false := decide_eq_false (by omega)
  have dk2 : decide (8 < k) = false := decide_eq_false (by omega)
  clear t0 t1 t2 t3 hk
  by_cases g0 : ex < 0
  case pos =>
    rw [if_pos (by omega)] at h
    subst h
    have d1 : decide (ex < 0) = true := decide_eq_true g0
    clear g0
    have HC := Lib.hid (MC.new w k ex va vb s n 29)
    have HB : Below w.heap.size w (w.alloc (.cells #[.int .i64 k, .int .i64 ex, .int .i64 va, .int .i64 vb, .int .i64 s.k, .int .i64 s.a, .int .i64 s.b, .string s.d, .int .i64 s.x.p, .int .i64 s.x.q, .string s.x.d, .int .i64 s.y.p, .int .i64 s.y.q, .string s.y.d, .int .i64 n] 29)) := (Below.refl _ _).alloc (Nat.le_refl _) _
    obtain ⟨c0, c1, c2, c3, c4, c5, c6, c7, c8, c9, c10, c11, c12, c13, c14⟩ := id HC.out
    go_enter Try.func12, Try.ntmps12
    go_wp2_with fail
    clear c0 c1 c2 c3 c4 c5 c6 c7 c8 c9 c10 c11 c12 c13 c14
    generalize w.alloc (.cells #[.int .i64 k, .int .i64 ex, .int .i64 va, .int .i64 vb, .int .i64 s.k, .int .i64 s.a, .int .i64 s.b, .string s.d, .int .i64 s.x.p, .int .i64 s.x.q, .string s.x.d, .int .i64 s.y.p, .int .i64 s.y.q, .string s.y.d, .int .i64 n] 29) = W1 at *
    refine (CO.out _).mono ?_
    rintro e' W2 ⟨rfl, hA⟩
    replace HC := Lib.hid (HC.out.below hA)
    replace HB := bt HB hA
    clear hA CO
    obtain ⟨e0, e1, e2, e3⟩ := held4b (w := W2) (a := true) (b := false) (c := false) (d := false) 58
    have hA := (Below.refl W2.heap.size W2).alloc (Nat.le_refl _) (.cells #[.bool true, .bool false, .bool false, .bool false] 58)
    replace HC := Lib.hid (HC.out.below hA)
    replace HB := bt HB hA
    clear hA
    obtain ⟨c0, c1, c2, c3, c4, c5, c6, c7, c8, c9, c10, c11, c12, c13, c14⟩ := id HC.out
    clear HC
    go_wp2_with fail
    go_ret
    exact ⟨rfl, HB⟩
  have d1 : decide (ex < 0) = false := decide_eq_false g0
  by_cases g1 : 24 ≤ ex
  case pos =>
    rw [if_pos (by omega)] at h
    subst h
    have d2 : decide (24 ≤ ex) = true := decide_eq_true g1
    clear g0 g1
    have HC := Lib.hid (MC.new w k ex va vb s n 29)
    have HB : Below w.heap.size w (w.alloc (.cells #[.int .i64 k, .int .i64 ex, .int .i64 va, .int .i64 vb, .int .i64 s.k, .int .i64 s.a, .int .i64 s.b, .string s.d, .int .i64 s.x.p, .int .i64 s.x.q, .string s.x.d, .int .i64 s.y.p, .int .i64 s.y.q, .string s.y.d, .int .i64 n] 29)) := (Below.refl _ _).alloc (Nat.le_refl _) _
    obtain ⟨c0, c1, c2, c3, c4, c5, c6, c7, c8, c9, c10, c11, c12, c13, c14⟩ := id HC.out
    go_enter Try.func12, Try.ntmps12
    go_wp2_with fail
    clear c0 c1 c2 c3 c4 c5 c6 c7 c8 c9 c10 c11 c12 c13 c14
    generalize w.alloc (.cells #[.int .i64 k, .int .i64 ex, .int .i64 va, .int .i64 vb, .int .i64 s.k, .int .i64 s.a, .int .i64 s.b, .string s.d, .int .i64 s.x.p, .int .i64 s.x.q, .string s.x.d, .int .i64 s.y.p, .int .i64 s.y.q, .string s.y.d, .int .i64 n] 29) = W1 at *
    refine (CO.out _).mono ?_
    rintro e' W2 ⟨rfl, hA⟩
    replace HC := Lib.hid (HC.out.below hA)
    replace HB := bt HB hA
    clear hA CO
    obtain ⟨e0, e1, e2, e3⟩ := held4b (w := W2) (a := true) (b := false) (c := false) (d := false) 58
    have hA := (Below.refl W2.heap.size W2).alloc (Nat.le_refl _) (.cells #[.bool true, .bool false, .bool false, .bool false] 58)
    replace HC := Lib.hid (HC.out.below hA)
    replace HB := bt HB hA
    clear hA
    obtain ⟨c0, c1, c2, c3, c4, c5, c6, c7, c8, c9, c10, c11, c12, c13, c14⟩ := id HC.out
    clear HC
    go_wp2_with fail
    go_ret
    exact ⟨rfl, HB⟩
  have d2 : decide (24 ≤ ex) = false := decide_eq_false g1
  by_cases g2 : ¬ (va = 0 ∧ vb = 0)
  case pos =>
    have hE : E = 4 := by rw [← h]; simp_all; try omega
    subst hE
    clear h
    have qv := fun W => v0ne_n g2 W
    clear g0 g1 g2
    have HC := Lib.hid (MC.new w k ex va vb s n 29)
    have HB : Below w.heap.size w (w.alloc (.cells #[.int .i64 k, .int .i64 ex, .int .i64 va, .int .i64 vb, .int .i64 s.k, .int .i64 s.a, .int .i64 s.b, .string s.d, .int .i64 s.x.p, .int .i64 s.x.q, .string s.x.d, .int .i64 s.y.p, .int .i64 s.y.q, .string s.y.d, .int .i64 n] 29)) := (Below.refl _ _).alloc (Nat.le_refl _) _
    obtain ⟨c0, c1, c2, c3, c4, c5, c6, c7, c8, c9, c10, c11, c12, c13, c14⟩ := id HC.out
    go_enter Try.func12, Try.ntmps12
    go_wp2_with fail
    clear c0 c1 c2 c3 c4 c5 c6 c7 c8 c9 c10 c11 c12 c13 c14
    generalize w.alloc (.cells #[.int .i64 k, .int .i64 ex, .int .i64 va, .int .i64 vb, .int .i64 s.k, .int .i64 s.a, .int .i64 s.b, .string s.d, .int .i64 s.x.p, .int .i64 s.x.q, .string s.x.d, .int .i64 s.y.p, .int .i64 s.y.q, .string s.y.d, .int .i64 n] 29) = W1 at *
    refine (CO.out _).mono ?_
    rintro e' W2 ⟨rfl, hA⟩
    replace HC := Lib.hid (HC.out.below hA)
    replace HB := bt HB hA
    clear hA CO
    obtain ⟨e0, e1, e2, e3⟩ := held4b (w := W2) (a := true) (b := false) (c := false) (d := false) 58
    have hA := (Below.refl W2.heap.size W2).alloc (Nat.le_refl _) (.cells #[.bool true, .bool false, .bool false, .bool false] 58)
    replace HC := Lib.hid (HC.out.below hA)
    replace HB := bt HB hA
    clear hA
    obtain ⟨c0, c1, c2, c3, c4, c5, c6, c7, c8, c9, c10, c11, c12, c13, c14⟩ := id HC.out
    clear HC
    go_wp2_with fail
    go_ret
    exact ⟨rfl, HB⟩
  have qv := fun W => v0ne_y (Classical.not_not.1 g2) W
  by_cases g3 : ¬ szB s = true
  case pos =>
    have hE : E = 4 := by rw [← h]; simp_all; try omega
    subst hE
    clear h
    have qs := fun W => s0ne_n s g3 W
    clear g0 g1 g2 g3
    have HC := Lib.hid (MC.new w k ex va vb s n 29)
    have HB : Below w.heap.size w (w.alloc (.cells #[.int .i64 k, .int .i64 ex, .int .i64 va, .int .i64 vb, .int .i64 s.k, .int .i64 s.a, .int .i64 s.b, .string s.d, .int .i64 s.x.p, .int .i64 s.x.q, .string s.x.d, .int .i64 s.y.p, .int .i64 s.y.q, .string s.y.d, .int .i64 n] 29)) := (Below.refl _ _).alloc (Nat.le_refl _) _
    obtain ⟨c0, c1, c2, c3, c4, c5, c6, c7, c8, c9, c10, c11, c12, c13, c14⟩ := id HC.out
    go_enter Try.func12, Try.ntmps12
    go_wp2_with fail
    clear c0 c1 c2 c3 c4 c5 c6 c7 c8 c9 c10 c11 c12 c13 c14
    generalize w.alloc (.cells #[.int .i64 k, .int .i64 ex, .int .i64 va, .int .i64 vb, .int .i64 s.k, .int .i64 s.a, .int .i64 s.b, .string s.d, .int .i64 s.x.p, .int .i64 s.x.q, .string s.x.d, .int .i64 s.y.p, .int .i64 s.y.q, .string s.y.d, .int .i64 n] 29) = W1 at *
    refine (CO.out _).mono ?_
    rintro e' W2 ⟨rfl, hA⟩
    replace HC := Lib.hid (HC.out.below hA)
    replace HB := bt HB hA
    clear hA CO
    obtain ⟨e0, e1, e2, e3⟩ := held4b (w := W2) (a := true) (b := false) (c := false) (d := false) 58
    have hA := (Below.refl W2.heap.size W2).alloc (Nat.le_refl _) (.cells #[.bool true, .bool false, .bool false, .bool false] 58)
    replace HC := Lib.hid (HC.out.below hA)
    replace HB := bt HB hA
    clear hA
    obtain ⟨c0, c1, c2, c3, c4, c5, c6, c7, c8, c9, c10, c11, c12, c13, c14⟩ := id HC.out
    clear HC
    go_wp2_with fail
    go_ret
    exact ⟨rfl, HB⟩
  have qs := fun W => s0ne_y s (Classical.not_not.1 g3) W
  by_cases g4 : n ≠ 0
  case pos =>
    have hE : E = 4 := by rw [← h]; simp_all; try omega
    subst hE
    clear h
    have dn : (n != 0) = true := bne_iff_ne.2 g4
    clear g0 g1 g2 g3 g4
    have HC := Lib.hid (MC.new w k ex va vb s n 29)
    have HB : Below w.heap.size w (w.alloc (.cells #[.int .i64 k, .int .i64 ex, .int .i64 va, .int .i64 vb, .int .i64 s.k, .int .i64 s.a, .int .i64 s.b, .string s.d, .int .i64 s.x.p, .int .i64 s.x.q, .string s.x.d, .int .i64 s.y.p, .int .i64 s.y.q, .string s.y.d, .int .i64 n] 29)) := (Below.refl _ _).alloc (Nat.le_refl _) _
    obtain ⟨c0, c1, c2, c3, c4, c5, c6, c7, c8, c9, c10, c11, c12, c13, c14⟩ := id HC.out
    go_enter Try.func12, Try.ntmps12
    go_wp2_with fail
    clear c0 c1 c2 c3 c4 c5 c6 c7 c8 c9 c10 c11 c12 c13 c14
    generalize w.alloc (.cells #[.int .i64 k, .int .i64 ex, .int .i64 va, .int .i64 vb, .int .i64 s.k, .int .i64 s.a, .int .i64 s.b, .string s.d, .int .i64 s.x.p, .int .i64 s.x.q, .string s.x.d, .int .i64 s.y.p, .int .i64 s.y.q, .string s.y.d, .int .i64 n] 29) = W1 at *
    refine (CO.out _).mono ?_
    rintro e' W2 ⟨rfl, hA⟩
    replace HC := Lib.hid (HC.out.below hA)
    replace HB := bt HB hA
    clear hA CO
    obtain ⟨e0, e1, e2, e3⟩ := held4b (w := W2) (a := true) (b := false) (c := false) (d := false) 58
    have hA := (Below.refl W2.heap.size W2).alloc (Nat.le_refl _) (.cells #[.bool true, .bool false, .bool false, .bool false] 58)
    replace HC := Lib.hid (HC.out.below hA)
    replace HB := bt HB hA
    clear hA
    obtain ⟨c0, c1, c2, c3, c4, c5, c6, c7, c8, c9, c10, c11, c12, c13, c14⟩ := id HC.out
    clear HC
    go_wp2_with fail
    go_ret
    exact ⟨rfl, HB⟩
  have dn : (n != 0) = false := bne_eq_false_iff_eq.2 (Classical.not_not.1 g4)
  have hE : E = 0 := by rw [← h]; simp_all; try omega
  subst hE
  clear h g0 g1 g2 g3 g4
  have HC := Lib.hid (MC.new w k ex va vb s n 29)
  have HB : Below w.heap.size w (w.alloc (.cells #[.int .i64 k, .int .i64 ex, .int .i64 va, .int .i64 vb, .int .i64 s.k, .int .i64 s.a, .int .i64 s.b, .string s.d, .int .i64 s.x.p, .int .i64 s.x.q, .string s.x.d, .int .i64 s.y.p, .int .i64 s.y.q, .string s.y.d, .int .i64 n] 29)) := (Below.refl _ _).alloc (Nat.le_refl _) _
  obtain ⟨c0, c1, c2, c3, c4, c5, c6, c7, c8, c9, c10, c11, c12, c13, c14⟩ := id HC.out
  go_enter Try.func12, Try.ntmps12
  go_wp2_with fail
  clear c0 c1 c2 c3 c4 c5 c6 c7 c8 c9 c10 c11 c12 c13 c14
  generalize w.alloc (.cells #[.int .i64 k, .int .i64 ex, .int .i64 va, .int .i64 vb, .int .i64 s.k, .int .i64 s.a, .int .i64 s.b, .string s.d, .int .i64 s.x.p, .int .i64 s.x.q, .string s.x.d, .int .i64 s.y.p, .int .i64 s.y.q, .string s.y.d, .int .i64 n] 29) = W1 at *
  refine (CO.out _).mono ?_
  rintro e' W2 ⟨rfl, hA⟩
  replace HC := Lib.hid (HC.out.below hA)
  replace HB := bt HB hA
  clear hA CO
  obtain ⟨e0, e1, e2, e3⟩ := held4b (w := W2) (a := true) (b := false) (c := false) (d := false) 58
  have hA := (Below.refl W2.heap.size W2).alloc (Nat.le_refl _) (.cells #[.bool true, .bool false, .bool false, .bool false] 58)
  replace HC := Lib.hid (HC.out.below hA)
  replace HB := bt HB hA
  clear hA
  obtain ⟨c0, c1, c2, c3, c4, c5, c6, c7, c8, c9, c10, c11, c12, c13, c14⟩ := id HC.out
  clear HC
  go_wp2_with fail
  go_ret
  exact ⟨rfl, HB⟩
set_option maxRecDepth 20000 in
set_option maxHeartbeats 6400000 in
theorem rwchk_C {k ex va vb : Int} {s : St} {n E : Int} (hk : k = 3) (h : mchk ⟨k, ex, va, vb, s, n⟩ = E) (w : World) : Calls Try.prog 12 #[MV k ex va vb s n] w fun e' w' => e' = .returned (.int .i64 E) ∧ Below w.heap.size w w' := by
  rw [mchk_C (m := ⟨k, ex, va, vb, s, n⟩) hk] at h
  simp only at h
  have CO := Lib.hid (fun w => tells_ok k w (by omega))
  obtain ⟨t0, t1, t2, t3⟩ := tC hk
  rw [t0, t1, t2, t3] at CO
  have k8 : (k == 8) = false := beq_eq_false_iff_ne.2 (by omega)
  have dk1 : decide (k < 1) = false := decide_eq_false (by omega)
  have dk2 : decide (8 < k) = false := decide_eq_false (by omega)
  clear t0 t1 t2 t3 hk
  by_cases g0 : ex < 0
  case pos =>
    rw [if_pos (by omega)] at h
    subst h
    have d1 : decide (ex < 0) = true := decide_eq_true g0
    clear g0
    have HC := Lib.hid (MC.new w k ex va vb s n 29)
    have HB : Below w.heap.size w (w.alloc (.cells #[.int .i64 k, .int .i64 ex, .int .i64 va, .int .i64 vb, .int .i64 s.k, .int .i64 s.a, .int .i64 s.b, .string s.d, .int .i64 s.x.p, .int .i64 s.x.q, .string s.x.d, .int .i64 s.y.p, .int .i64 s.y.q, .string s.y.d, .int .i64 n] 29)) := (Below.refl _ _).alloc (Nat.le_refl _) _
    obtain ⟨c0, c1, c2, c3, c4, c5, c6, c7, c8, c9, c10, c11, c12, c13, c14⟩ := id HC.out
    go_enter Try.func12, Try.ntmps12
    go_wp2_with fail
    clear c0 c1 c2 c3 c4 c5 c6 c7 c8 c9 c10 c11 c12 c13 c14
    generalize w.alloc (.cells #[.int .i64 k, .int .i64 ex, .int .i64 va, .int .i64 vb, .int .i64 s.k, .int .i64 s.a, .int .i64 s.b, .string s.d, .int .i64 s.x.p, .int .i64 s.x.q, .string s.x.d, .int .i64 s.y.p, .int .i64 s.y.q, .string s.y.d, .int .i64 n] 29) = W1 at *
    refine (CO.out _).mono ?_
    rintro e' W2 ⟨rfl, hA⟩
    replace HC := Lib.hid (HC.out.below hA)
    replace HB := bt HB hA
    clear hA CO
    obtain ⟨e0, e1, e2, e3⟩ := held4b (w := W2) (a := true) (b := false) (c := true) (d := false) 58
    have hA := (Below.refl W2.heap.size W2).alloc (Nat.le_refl _) (.cells #[.bool true, .bool false, .bool true, .bool false] 58)
    replace HC := Lib.hid (HC.out.below hA)
    replace HB := bt HB hA
    clear hA
    obtain ⟨c0, c1, c2, c3, c4, c5, c6, c7, c8, c9, c10, c11, c12, c13, c14⟩ := id HC.out
    clear HC
    go_wp2_with fail
    go_ret
    exact ⟨rfl, HB⟩
  have d1 : decide (ex < 0) = false := decide_eq_false g0
  by_cases g1 : 24 ≤ ex
  case pos =>
    rw [if_pos (by omega)] at h
    subst h
    have d2 : decide (24 ≤ ex) = true := decide_eq_true g1
    clear g0 g1
    have HC := Lib.hid (MC.new w k ex va vb s n 29)
    have HB : Below w.heap.size w (w.alloc (.cells #[.int .i64 k, .int .i64 ex, .int .i64 va, .int .i64 vb, .int .i64 s.k, .int .i64 s.a, .int .i64 s.b, .string s.d, .int .i64 s.x.p, .int .i64 s.x.q, .string s.x.d, .int .i64 s.y.p, .int .i64 s.y.q, .string s.y.d, .int .i64 n] 29)) := (Below.refl _ _).alloc (Nat.le_refl _) _
    obtain ⟨c0, c1, c2, c3, c4, c5, c6, c7, c8, c9, c10, c11, c12, c13, c14⟩ := id HC.out
    go_enter Try.func12, Try.ntmps12
    go_wp2_with fail
    clear c0 c1 c2 c3 c4 c5 c6 c7 c8 c9 c10 c11 c12 c13 c14
    generalize w.alloc (.cells #[.int .i64 k, .int .i64 ex, .int .i64 va, .int .i64 vb, .int .i64 s.k, .int .i64 s.a, .int .i64 s.b, .string s.d, .int .i64 s.x.p, .int .i64 s.x.q, .string s.x.d, .int .i64 s.y.p, .int .i64 s.y.q, .string s.y.d, .int .i64 n] 29) = W1 at *
    refine (CO.out _).mono ?_
    rintro e' W2 ⟨rfl, hA⟩
    replace HC := Lib.hid (HC.out.below hA)
    replace HB := bt HB hA
    clear hA CO
    obtain ⟨e0, e1, e2, e3⟩ := held4b (w := W2) (a := true) (b := false) (c := true) (d := false) 58
    have hA := (Below.refl W2.heap.size W2).alloc (Nat.le_refl _) (.cells #[.bool true, .bool false, .bool true, .bool false] 58)
    replace HC := Lib.hid (HC.out.below hA)
    replace HB := bt HB hA
    clear hA
    obtain ⟨c0, c1, c2, c3, c4, c5, c6, c7, c8, c9, c10, c11, c12, c13, c14⟩ := id HC.out
    clear HC
    go_wp2_with fail
    go_ret
    exact ⟨rfl, HB⟩
  have d2 : decide (24 ≤ ex) = false := decide_eq_false g1
  obtain ⟨X, hX⟩ : ∃ X, chkE s = X := ⟨_, rfl⟩
  have C3 := Lib.hid (fun w => rsck_at hX w)
  rw [hX] at h
  clear hX
  by_cases hx0 : X = 0
  case neg =>
    rw [if_neg (by omega), if_pos hx0] at h
    subst h
    have n1 : (X != 0) = true := bne_iff_ne.2 hx0
    clear hx0 g0 g1
    have HC := Lib.hid (MC.new w k ex va vb s n 29)
    have HB : Below w.heap.size w (w.alloc (.cells #[.int .i64 k, .int .i64 ex, .int .i64 va, .int .i64 vb, .int .i64 s.k, .int .i64 s.a, .int .i64 s.b, .string s.d, .int .i64 s.x.p, .int .i64 s.x.q, .string s.x.d, .int .i64 s.y.p, .int .i64 s.y.q, .string s.y.d, .int .i64 n] 29)) := (Below.refl _ _).alloc (Nat.le_refl _) _
    obtain ⟨c0, c1, c2, c3, c4, c5, c6, c7, c8, c9, c10, c11, c12, c13, c14⟩ := id HC.out
    go_enter Try.func12, Try.ntmps12
    go_wp2_with fail
    clear c0 c1 c2 c3 c4 c5 c6 c7 c8 c9 c10 c11 c12 c13 c14
    generalize w.alloc (.cells #[.int .i64 k, .int .i64 ex, .int .i64 va, .int .i64 vb, .int .i64 s.k, .int .i64 s.a, .int .i64 s.b, .string s.d, .int .i64 s.x.p, .int .i64 s.x.q, .string s.x.d, .int .i64 s.y.p, .int .i64 s.y.q, .string s.y.d, .int .i64 n] 29) = W1 at *
    refine (CO.out _).mono ?_
    rintro e' W2 ⟨rfl, hA⟩
    replace HC := Lib.hid (HC.out.below hA)
    replace HB := bt HB hA
    clear hA CO
    obtain ⟨e0, e1, e2, e3⟩ := held4b (w := W2) (a := true) (b := false) (c := true) (d := false) 58
    have hA := (Below.refl W2.heap.size W2).alloc (Nat.le_refl _) (.cells #[.bool true, .bool false, .bool true, .bool false] 58)
    replace HC := Lib.hid (HC.out.below hA)
    replace HB := bt HB hA
    clear hA
    obtain ⟨c0, c1, c2, c3, c4, c5, c6, c7, c8, c9, c10, c11, c12, c13, c14⟩ := id HC.out
    clear HC
    go_wp2_with (first | (go_at_call 34; (with_reducible refine (C3.out _).mono ?_); clear C3; rintro e' w5 ⟨rfl, hA⟩; replace c0 := bkeep hA c0; replace c1 := bkeep hA c1; replace c2 := bkeep hA c2; replace c3 := bkeep hA c3; replace c4 := bkeep hA c4; replace c5 := bkeep hA c5; replace c6 := bkeep hA c6; replace c7 := bkeep hA c7; replace c8 := bkeep hA c8; replace c9 := bkeep hA c9; replace c10 := bkeep hA c10; replace c11 := bkeep hA c11; replace c12 := bkeep hA c12; replace c13 := bkeep hA c13; replace c14 := bkeep hA c14; replace e0 := bkeep hA e0; replace e1 := bkeep hA e1; replace e2 := bkeep hA e2; replace e3 := bkeep hA e3; replace HB := bt HB hA; clear hA))
    go_ret
    exact ⟨rfl, HB⟩
  subst hx0
  have n1 : ((0 : Int) != 0) = false := by decide
  by_cases g3 : ¬ (va = 0 ∧ vb = 0)
  case pos =>
    have hE : E = 4 := by rw [← h]; simp_all; try omega
    subst hE
    clear h
    have qv := fun W => v0ne_n g3 W
    clear g0 g1 g3
    have HC := Lib.hid (MC.new w k ex va vb s n 29)
    have HB : Below w.heap.size w (w.alloc (.cells #[.int .i64 k, .int .i64 ex, .int .i64 va, .int .i64 vb, .int .i64 s.k, .int .i64 s.a, .int .i64 s.b, .string s.d, .int .i64 s.x.p, .int .i64 s.x.q, .string s.x.d, .int .i64 s.y.p, .int .i64 s.y.q, .string s.y.d, .int .i64 n] 29)) := (Below.refl _ _).alloc (Nat.le_refl _) _
    obtain ⟨c0, c1, c2, c3, c4, c5, c6, c7, c8, c9, c10, c11, c12, c13, c14⟩ := id HC.out
    go_enter Try.func12, Try.ntmps12
    go_wp2_with fail
    clear c0 c1 c2 c3 c4 c5 c6 c7 c8 c9 c10 c11 c12 c13 c14
    generalize w.alloc (.cells #[.int .i64 k, .int .i64 ex, .int .i64 va, .int .i64 vb, .int .i64 s.k, .int .i64 s.a, .int .i64 s.b, .string s.d, .int .i64 s.x.p, .int .i64 s.x.q, .string s.x.d, .int .i64 s.y.p, .int .i64 s.y.q, .string s.y.d, .int .i64 n] 29) = W1 at *
    refine (CO.out _).mono ?_
    rintro e' W2 ⟨rfl, hA⟩
    replace HC := Lib.hid (HC.out.below hA)
    replace HB := bt HB hA
    clear hA CO
    obtain ⟨e0, e1, e2, e3⟩ := held4b (w := W2) (a := true) (b := false) (c := true) (d := false) 58
    have hA := (Below.refl W2.heap.size W2).alloc (Nat.le_refl _) (.cells #[.bool true, .bool false, .bool true, .bool false] 58)
    replace HC := Lib.hid (HC.out.below hA)
    replace HB := bt HB hA
    clear hA
    obtain ⟨c0, c1, c2, c3, c4, c5, c6, c7, c8, c9, c10, c11, c12, c13, c14⟩ := id HC.out
    clear HC
    go_wp2_with (first | (go_at_call 34; (with_reducible refine (C3.out _).mono ?_); clear C3; rintro e' w5 ⟨rfl, hA⟩; replace c0 := bkeep hA c0; replace c1 := bkeep hA c1; replace c2 := bkeep hA c2; replace c3 := bkeep hA c3; replace c4 := bkeep hA c4; replace c5 := bkeep hA c5; replace c6 := bkeep hA c6; replace c7 := bkeep hA c7; replace c8 := bkeep hA c8; replace c9 := bkeep hA c9; replace c10 := bkeep hA c10; replace c11 := bkeep hA c11; replace c12 := bkeep hA c12; replace c13 := bkeep hA c13; replace c14 := bkeep hA c14; replace e0 := bkeep hA e0; replace e1 := bkeep hA e1; replace e2 := bkeep hA e2; replace e3 := bkeep hA e3; replace HB := bt HB hA; clear hA))
    go_ret
    exact ⟨rfl, HB⟩
  have qv := fun W => v0ne_y (Classical.not_not.1 g3) W
  by_cases g4 : n ≠ 0
  case pos =>
    have hE : E = 4 := by rw [← h]; simp_all; try omega
    subst hE
    clear h
    have dn : (n != 0) = true := bne_iff_ne.2 g4
    clear g0 g1 g3 g4
    have HC := Lib.hid (MC.new w k ex va vb s n 29)
    have HB : Below w.heap.size w (w.alloc (.cells #[.int .i64 k, .int .i64 ex, .int .i64 va, .int .i64 vb, .int .i64 s.k, .int .i64 s.a, .int .i64 s.b, .string s.d, .int .i64 s.x.p, .int .i64 s.x.q, .string s.x.d, .int .i64 s.y.p, .int .i64 s.y.q, .string s.y.d, .int .i64 n] 29)) := (Below.refl _ _).alloc (Nat.le_refl _) _
    obtain ⟨c0, c1, c2, c3, c4, c5, c6, c7, c8, c9, c10, c11, c12, c13, c14⟩ := id HC.out
    go_enter Try.func12, Try.ntmps12
    go_wp2_with fail
    clear c0 c1 c2 c3 c4 c5 c6 c7 c8 c9 c10 c11 c12 c13 c14
    generalize w.alloc (.cells #[.int .i64 k, .int .i64 ex, .int .i64 va, .int .i64 vb, .int .i64 s.k, .int .i64 s.a, .int .i64 s.b, .string s.d, .int .i64 s.x.p, .int .i64 s.x.q, .string s.x.d, .int .i64 s.y.p, .int .i64 s.y.q, .string s.y.d, .int .i64 n] 29) = W1 at *
    refine (CO.out _).mono ?_
    rintro e' W2 ⟨rfl, hA⟩
    replace HC := Lib.hid (HC.out.below hA)
    replace HB := bt HB hA
    clear hA CO
    obtain ⟨e0, e1, e2, e3⟩ := held4b (w := W2) (a := true) (b := false) (c := true) (d := false) 58
    have hA := (Below.refl W2.heap.size W2).alloc (Nat.le_refl _) (.cells #[.bool true, .bool false, .bool true, .bool false] 58)
    replace HC := Lib.hid (HC.out.below hA)
    replace HB := bt HB hA
    clear hA
    obtain ⟨c0, c1, c2, c3, c4, c5, c6, c7, c8, c9, c10, c11, c12, c13, c14⟩ := id HC.out
    clear HC
    go_wp2_with (first | (go_at_call 34; (with_reducible refine (C3.out _).mono ?_); clear C3; rintro e' w5 ⟨rfl, hA⟩; replace c0 := bkeep hA c0; replace c1 := bkeep hA c1; replace c2 := bkeep hA c2; replace c3 := bkeep hA c3; replace c4 := bkeep hA c4; replace c5 := bkeep hA c5; replace c6 := bkeep hA c6; replace c7 := bkeep hA c7; replace c8 := bkeep hA c8; replace c9 := bkeep hA c9; replace c10 := bkeep hA c10; replace c11 := bkeep hA c11; replace c12 := bkeep hA c12; replace c13 := bkeep hA c13; replace c14 := bkeep hA c14; replace e0 := bkeep hA e0; replace e1 := bkeep hA e1; replace e2 := bkeep hA e2; replace e3 := bkeep hA e3; replace HB := bt HB hA; clear hA))
    go_ret
    exact ⟨rfl, HB⟩
  have dn : (n != 0) = false := bne_eq_false_iff_eq.2 (Classical.not_not.1 g4)
  have hE : E = 0 := by rw [← h]; simp_all; try omega
  subst hE
  clear h g0 g1 g3 g4
  have HC := Lib.hid (MC.new w k ex va vb s n 29)
  have HB : Below w.heap.size w (w.alloc (.cells #[.int .i64 k, .int .i64 ex, .int .i64 va, .int .i64 vb, .int .i64 s.k, .int .i64 s.a, .int .i64 s.b, .string s.d, .int .i64 s.x.p, .int .i64 s.x.q, .string s.x.d, .int .i64 s.y.p, .int .i64 s.y.q, .string s.y.d, .int .i64 n] 29)) := (Below.refl _ _).alloc (Nat.le_refl _) _
  obtain ⟨c0, c1, c2, c3, c4, c5, c6, c7, c8, c9, c10, c11, c12, c13, c14⟩ := id HC.out
  go_enter Try.func12, Try.ntmps12
  go_wp2_with fail
  clear c0 c1 c2 c3 c4 c5 c6 c7 c8 c9 c10 c11 c12 c13 c14
  generalize w.alloc (.cells #[.int .i64 k, .int .i64 ex, .int .i64 va, .int .i64 vb, .int .i64 s.k, .int .i64 s.a, .int .i64 s.b, .string s.d, .int .i64 s.x.p, .int .i64 s.x.q, .string s.x.d, .int .i64 s.y.p, .int .i64 s.y.q, .string s.y.d, .int .i64 n] 29) = W1 at *
  refine (CO.out _).mono ?_
  rintro e' W2 ⟨rfl, hA⟩
  replace HC := Lib.hid (HC.out.below hA)
  replace HB := bt HB hA
  clear hA CO
  obtain ⟨e0, e1, e2, e3⟩ := held4b (w := W2) (a := true) (b := false) (c := true) (d := false) 58
  have hA := (Below.refl W2.heap.size W2).alloc (Nat.le_refl _) (.cells #[.bool true, .bool false, .bool true, .bool false] 58)
  replace HC := Lib.hid (HC.out.below hA)
  replace HB := bt HB hA
  clear hA
  obtain ⟨c0, c1, c2, c3, c4, c5, c6, c7, c8, c9, c10, c11, c12, c13, c14⟩ := id HC.out
  clear HC
  go_wp2_with (first | (go_at_call 34; (with_reducible refine (C3.out _).mono ?_); clear C3; rintro e' w5 ⟨rfl, hA⟩; replace c0 := bkeep hA c0; replace c1 := bkeep hA c1; replace c2 := bkeep hA c2; replace c3 := bkeep hA c3; replace c4 := bkeep hA c4; replace c5 := bkeep hA c5; replace c6 := bkeep hA c6; replace c7 := bkeep hA c7; replace c8 := bkeep hA c8; replace c9 := bkeep hA c9; replace c10 := bkeep hA c10; replace c11 := bkeep hA c11; replace c12 := bkeep hA c12; replace c13 := bkeep hA c13; replace c14 := bkeep hA c14; replace e0 := bkeep hA e0; replace e1 := bkeep hA e1; replace e2 := bkeep hA e2; replace e3 := bkeep hA e3; replace HB := bt HB hA; clear hA))
  go_ret
  exact ⟨rfl, HB⟩
set_option maxRecDepth 20000 in
set_option maxHeartbeats 6400000 in
theorem rwchk_D7 {k ex va vb : Int} {s : St} {n E : Int} (hk : k = 7) (h : mchk ⟨k, ex, va, vb, s, n⟩ = E) (w : World) : Calls Try.prog 12 #[MV k ex va vb s n] w fun e' w' => e' = .returned (.int .i64 E) ∧ Below w.heap.size w w' := by
  rw [mchk_D (m := ⟨k, ex, va, vb, s, n⟩) (by simp only; omega), show mostN k = 24 by unfold mostN; rw [if_neg (by omega)]] at h
  simp only at h
  have CO := Lib.hid (fun w => tells_ok k w (by omega))
  obtain ⟨t0, t1, t2, t3⟩ := tD (k := k) (by omega)
  rw [t0, t1, t2, t3] at CO
  have k8 : (k == 8) = false := beq_eq_false_iff_ne.2 (by omega)
  have dk1 : decide (k < 1) = false := decide_eq_false (by omega)
  have dk2 : decide (8 < k) = false := decide_eq_false (by omega)
  clear t0 t1 t2 t3 hk
  by_cases g0 : n < 0
  case pos =>
    rw [if_pos (by omega)] at h
    subst h
    have d1 : decide (n < 0) = true := decide_eq_true g0
    clear g0
    have HC := Lib.hid (MC.new w k ex va vb s n 29)
    have HB : Below w.heap.size w (w.alloc (.cells #[.int .i64 k, .int .i64 ex, .int .i64 va, .int .i64 vb, .int .i64 s.k, .int .i64 s.a, .int .i64 s.b, .string s.d, .int .i64 s.x.p, .int .i64 s.x.q, .string s.x.d, .int .i64 s.y.p, .int .i64 s.y.q, .string s.y.d, .int .i64 n] 29)) := (Below.refl _ _).alloc (Nat.le_refl _) _
    obtain ⟨c0, c1, c2, c3, c4, c5, c6, c7, c8, c9, c10, c11, c12, c13, c14⟩ := id HC.out
    go_enter Try.func12, Try.ntmps12
    go_wp2_with fail
    clear c0 c1 c2 c3 c4 c5 c6 c7 c8 c9 c10 c11 c12 c13 c14
    generalize w.alloc (.cells #[.int .i64 k, .int .i64 ex, .int .i64 va, .int .i64 vb, .int .i64 s.k, .int .i64 s.a, .int .i64 s.b, .string s.d, .int .i64 s.x.p, .int .i64 s.x.q, .string s.x.d, .int .i64 s.y.p, .int .i64 s.y.q, .string s.y.d, .int .i64 n] 29) = W1 at *
    refine (CO.out _).mono ?_
    rintro e' W2 ⟨rfl, hA⟩
    replace HC := Lib.hid (HC.out.below hA)
    replace HB := bt HB hA
    clear hA CO
    obtain ⟨e0, e1, e2, e3⟩ := held4b (w := W2) (a := false) (b := false) (c := false) (d := true) 58
    have hA := (Below.refl W2.heap.size W2).alloc (Nat.le_refl _) (.cells #[.bool false, .bool false, .bool false, .bool true] 58)
    replace HC := Lib.hid (HC.out.below hA)
    replace HB := bt HB hA
    clear hA
    obtain ⟨c0, c1, c2, c3, c4, c5, c6, c7, c8, c9, c10, c11, c12, c13, c14⟩ := id HC.out
    clear HC
    go_wp2_with fail
    go_ret
    exact ⟨rfl, HB⟩
  have d1 : decide (n < 0) = false := decide_eq_false g0
  by_cases g1 : 24 < n
  case pos =>
    rw [if_pos (by omega)] at h
    subst h
    have d2 : decide (24 < n) = true := decide_eq_true g1
    clear g0 g1
    have HC := Lib.hid (MC.new w k ex va vb s n 29)
    have HB : Below w.heap.size w (w.alloc (.cells #[.int .i64 k, .int .i64 ex, .int .i64 va, .int .i64 vb, .int .i64 s.k, .int .i64 s.a, .int .i64 s.b, .string s.d, .int .i64 s.x.p, .int .i64 s.x.q, .string s.x.d, .int .i64 s.y.p, .int .i64 s.y.q, .string s.y.d, .int .i64 n] 29)) := (Below.refl _ _).alloc (Nat.le_refl _) _
    obtain ⟨c0, c1, c2, c3, c4, c5, c6, c7, c8, c9, c10, c11, c12, c13, c14⟩ := id HC.out
    go_enter Try.func12, Try.ntmps12
    go_wp2_with fail
    clear c0 c1 c2 c3 c4 c5 c6 c7 c8 c9 c10 c11 c12 c13 c14
    generalize w.alloc (.cells #[.int .i64 k, .int .i64 ex, .int .i64 va, .int .i64 vb, .int .i64 s.k, .int .i64 s.a, .int .i64 s.b, .string s.d, .int .i64 s.x.p, .int .i64 s.x.q, .string s.x.d, .int .i64 s.y.p, .int .i64 s.y.q, .string s.y.d, .int .i64 n] 29) = W1 at *
    refine (CO.out _).mono ?_
    rintro e' W2 ⟨rfl, hA⟩
    replace HC := Lib.hid (HC.out.below hA)
    replace HB := bt HB hA
    clear hA CO
    obtain ⟨e0, e1, e2, e3⟩ := held4b (w := W2) (a := false) (b := false) (c := false) (d := true) 58
    have hA := (Below.refl W2.heap.size W2).alloc (Nat.le_refl _) (.cells #[.bool false, .bool false, .bool false, .bool true] 58)
    replace HC := Lib.hid (HC.out.below hA)
    replace HB := bt HB hA
    clear hA
    obtain ⟨c0, c1, c2, c3, c4, c5, c6, c7, c8, c9, c10, c11, c12, c13, c14⟩ := id HC.out
    clear HC
    go_wp2_with fail
    go_ret
    exact ⟨rfl, HB⟩
  have d2 : decide (24 < n) = false := decide_eq_false g1
  by_cases g2 : ex ≠ 0
  case pos =>
    have hE : E = 4 := by rw [← h]; simp_all; try omega
    subst hE
    clear h
    have dx : (ex != 0) = true := bne_iff_ne.2 g2
    clear g0 g1 g2
    have HC := Lib.hid (MC.new w k ex va vb s n 29)
    have HB : Below w.heap.size w (w.alloc (.cells #[.int .i64 k, .int .i64 ex, .int .i64 va, .int .i64 vb, .int .i64 s.k, .int .i64 s.a, .int .i64 s.b, .string s.d, .int .i64 s.x.p, .int .i64 s.x.q, .string s.x.d, .int .i64 s.y.p, .int .i64 s.y.q, .string s.y.d, .int .i64 n] 29)) := (Below.refl _ _).alloc (Nat.le_refl _) _
    obtain ⟨c0, c1, c2, c3, c4, c5, c6, c7, c8, c9, c10, c11, c12, c13, c14⟩ := id HC.out
    go_enter Try.func12, Try.ntmps12
    go_wp2_with fail
    clear c0 c1 c2 c3 c4 c5 c6 c7 c8 c9 c10 c11 c12 c13 c14
    generalize w.alloc (.cells #[.int .i64 k, .int .i64 ex, .int .i64 va, .int .i64 vb, .int .i64 s.k, .int .i64 s.a, .int .i64 s.b, .string s.d, .int .i64 s.x.p, .int .i64 s.x.q, .string s.x.d, .int .i64 s.y.p, .int .i64 s.y.q, .string s.y.d, .int .i64 n] 29) = W1 at *
    refine (CO.out _).mono ?_
    rintro e' W2 ⟨rfl, hA⟩
    replace HC := Lib.hid (HC.out.below hA)
    replace HB := bt HB hA
    clear hA CO
    obtain ⟨e0, e1, e2, e3⟩ := held4b (w := W2) (a := false) (b := false) (c := false) (d := true) 58
    have hA := (Below.refl W2.heap.size W2).alloc (Nat.le_refl _) (.cells #[.bool false, .bool false, .bool false, .bool true] 58)
    replace HC := Lib.hid (HC.out.below hA)
    replace HB := bt HB hA
    clear hA
    obtain ⟨c0, c1, c2, c3, c4, c5, c6, c7, c8, c9, c10, c11, c12, c13, c14⟩ := id HC.out
    clear HC
    go_wp2_with fail
    go_ret
    exact ⟨rfl, HB⟩
  have dx : (ex != 0) = false := bne_eq_false_iff_eq.2 (Classical.not_not.1 g2)
  by_cases g3 : ¬ (va = 0 ∧ vb = 0)
  case pos =>
    have hE : E = 4 := by rw [← h]; simp_all; try omega
    subst hE
    clear h
    have qv := fun W => v0ne_n g3 W
    clear g0 g1 g2 g3
    have HC := Lib.hid (MC.new w k ex va vb s n 29)
    have HB : Below w.heap.size w (w.alloc (.cells #[.int .i64 k, .int .i64 ex, .int .i64 va, .int .i64 vb, .int .i64 s.k, .int .i64 s.a, .int .i64 s.b, .string s.d, .int .i64 s.x.p, .int .i64 s.x.q, .string s.x.d, .int .i64 s.y.p, .int .i64 s.y.q, .string s.y.d, .int .i64 n] 29)) := (Below.refl _ _).alloc (Nat.le_refl _) _
    obtain ⟨c0, c1, c2, c3, c4, c5, c6, c7, c8, c9, c10, c11, c12, c13, c14⟩ := id HC.out
    go_enter Try.func12, Try.ntmps12
    go_wp2_with fail
    clear c0 c1 c2 c3 c4 c5 c6 c7 c8 c9 c10 c11 c12 c13 c14
    generalize w.alloc (.cells #[.int .i64 k, .int .i64 ex, .int .i64 va, .int .i64 vb, .int .i64 s.k, .int .i64 s.a, .int .i64 s.b, .string s.d, .int .i64 s.x.p, .int .i64 s.x.q, .string s.x.d, .int .i64 s.y.p, .int .i64 s.y.q, .string s.y.d, .int .i64 n] 29) = W1 at *
    refine (CO.out _).mono ?_
    rintro e' W2 ⟨rfl, hA⟩
    replace HC := Lib.hid (HC.out.below hA)
    replace HB := bt HB hA
    clear hA CO
    obtain ⟨e0, e1, e2, e3⟩ := held4b (w := W2) (a := false) (b := false) (c := false) (d := true) 58
    have hA := (Below.refl W2.heap.size W2).alloc (Nat.le_refl _) (.cells #[.bool false, .bool false, .bool false, .bool true] 58)
    replace HC := Lib.hid (HC.out.below hA)
    replace HB := bt HB hA
    clear hA
    obtain ⟨c0, c1, c2, c3, c4, c5, c6, c7, c8, c9, c10, c11, c12, c13, c14⟩ := id HC.out
    clear HC
    go_wp2_with fail
    go_ret
    exact ⟨rfl, HB⟩
  have qv := fun W => v0ne_y (Classical.not_not.1 g3) W
  by_cases g4 : ¬ szB s = true
  case pos =>
    have hE : E = 4 := by rw [← h]; simp_all; try omega
    subst hE
    clear h
    have qs := fun W => s0ne_n s g4 W
    clear g0 g1 g2 g3 g4
    have HC := Lib.hid (MC.new w k ex va vb s n 29)
    have HB : Below w.heap.size w (w.alloc (.cells #[.int .i64 k, .int .i64 ex, .int .i64 va, .int .i64 vb, .int .i64 s.k, .int .i64 s.a, .int .i64 s.b, .string s.d, .int .i64 s.x.p, .int .i64 s.x.q, .string s.x.d, .int .i64 s.y.p, .int .i64 s.y.q, .string s.y.d, .int .i64 n] 29)) := (Below.refl _ _).alloc (Nat.le_refl _) _
    obtain ⟨c0, c1, c2, c3, c4, c5, c6, c7, c8, c9, c10, c11, c12, c13, c14⟩ := id HC.out
    go_enter Try.func12, Try.ntmps12
    go_wp2_with fail
    clear c0 c1 c2 c3 c4 c5 c6 c7 c8 c9 c10 c11 c12 c13 c14
    generalize w.alloc (.cells #[.int .i64 k, .int .i64 ex, .int .i64 va, .int .i64 vb, .int .i64 s.k, .int .i64 s.a, .int .i64 s.b, .string s.d, .int .i64 s.x.p, .int .i64 s.x.q, .string s.x.d, .int .i64 s.y.p, .int .i64 s.y.q, .string s.y.d, .int .i64 n] 29) = W1 at *
    refine (CO.out _).mono ?_
    rintro e' W2 ⟨rfl, hA⟩
    replace HC := Lib.hid (HC.out.below hA)
    replace HB := bt HB hA
    clear hA CO
    obtain ⟨e0, e1, e2, e3⟩ := held4b (w := W2) (a := false) (b := false) (c := false) (d := true) 58
    have hA := (Below.refl W2.heap.size W2).alloc (Nat.le_refl _) (.cells #[.bool false, .bool false, .bool false, .bool true] 58)
    replace HC := Lib.hid (HC.out.below hA)
    replace HB := bt HB hA
    clear hA
    obtain ⟨c0, c1, c2, c3, c4, c5, c6, c7, c8, c9, c10, c11, c12, c13, c14⟩ := id HC.out
    clear HC
    go_wp2_with fail
    go_ret
    exact ⟨rfl, HB⟩
  have qs := fun W => s0ne_y s (Classical.not_not.1 g4) W
  have hE : E = 0 := by rw [← h]; simp_all; try omega
  subst hE
  clear h g0 g1 g2 g3 g4
  have HC := Lib.hid (MC.new w k ex va vb s n 29)
  have HB : Below w.heap.size w (w.alloc (.cells #[.int .i64 k, .int .i64 ex, .int .i64 va, .int .i64 vb, .int .i64 s.k, .int .i64 s.a, .int .i64 s.b, .string s.d, .int .i64 s.x.p, .int .i64 s.x.q, .string s.x.d, .int .i64 s.y.p, .int .i64 s.y.q, .string s.y.d, .int .i64 n] 29)) := (Below.refl _ _).alloc (Nat.le_refl _) _
  obtain ⟨c0, c1, c2, c3, c4, c5, c6, c7, c8, c9, c10, c11, c12, c13, c14⟩ := id HC.out
  go_enter Try.func12, Try.ntmps12
  go_wp2_with fail
  clear c0 c1 c2 c3 c4 c5 c6 c7 c8 c9 c10 c11 c12 c13 c14
  generalize w.alloc (.cells #[.int .i64 k, .int .i64 ex, .int .i64 va, .int .i64 vb, .int .i64 s.k, .int .i64 s.a, .int .i64 s.b, .string s.d, .int .i64 s.x.p, .int .i64 s.x.q, .string s.x.d, .int .i64 s.y.p, .int .i64 s.y.q, .string s.y.d, .int .i64 n] 29) = W1 at *
  refine (CO.out _).mono ?_
  rintro e' W2 ⟨rfl, hA⟩
  replace HC := Lib.hid (HC.out.below hA)
  replace HB := bt HB hA
  clear hA CO
  obtain ⟨e0, e1, e2, e3⟩ := held4b (w := W2) (a := false) (b := false) (c := false) (d := true) 58
  have hA := (Below.refl W2.heap.size W2).alloc (Nat.le_refl _) (.cells #[.bool false, .bool false, .bool false, .bool true] 58)
  replace HC := Lib.hid (HC.out.below hA)
  replace HB := bt HB hA
  clear hA
  obtain ⟨c0, c1, c2, c3, c4, c5, c6, c7, c8, c9, c10, c11, c12, c13, c14⟩ := id HC.out
  clear HC
  go_wp2_with fail
  go_ret
  exact ⟨rfl, HB⟩
set_option maxRecDepth 20000 in
set_option maxHeartbeats 6400000 in
theorem rwchk_D8 {k ex va vb : Int} {s : St} {n E : Int} (hk : k = 8) (h : mchk ⟨k, ex, va, vb, s, n⟩ = E) (w : World) : Calls Try.prog 12 #[MV k ex va vb s n] w fun e' w' => e' = .returned (.int .i64 E) ∧ Below w.heap.size w w' := by
  rw [mchk_D (m := ⟨k, ex, va, vb, s, n⟩) (by simp only; omega), show mostN k = 1 by unfold mostN; rw [if_pos (by omega)]] at h
  simp only at h
  have CO := Lib.hid (fun w => tells_ok k w (by omega))
  obtain ⟨t0, t1, t2, t3⟩ := tD (k := k) (by omega)
  rw [t0, t1, t2, t3] at CO
  have k8 : (k == 8) = true := beq_iff_eq.2 (by omega)
  have dk1 : decide (k < 1) = false := decide_eq_false (by omega)
  have dk2 : decide (8 < k) = false := decide_eq_false (by omega)
  clear t0 t1 t2 t3 hk
  by_cases g0 : n < 0
  case pos =>
    rw [if_pos (by omega)] at h
    subst h
    have d1 : decide (n < 0) = true := decide_eq_true g0
    clear g0
    have HC := Lib.hid (MC.new w k ex va vb s n 29)
    have HB : Below w.heap.size w (w.alloc (.cells #[.int .i64 k, .int .i64 ex, .int .i64 va, .int .i64 vb, .int .i64 s.k, .int .i64 s.a, .int .i64 s.b, .string s.d, .int .i64 s.x.p, .int .i64 s.x.q, .string s.x.d, .int .i64 s.y.p, .int .i64 s.y.q, .string s.y.d, .int .i64 n] 29)) := (Below.refl _ _).alloc (Nat.le_refl _) _
    obtain ⟨c0, c1, c2, c3, c4, c5, c6, c7, c8, c9, c10, c11, c12, c13, c14⟩ := id HC.out
    go_enter Try.func12, Try.ntmps12
    go_wp2_with fail
    clear c0 c1 c2 c3 c4 c5 c6 c7 c8 c9 c10 c11 c12 c13 c14
    generalize w.alloc (.cells #[.int .i64 k, .int .i64 ex, .int .i64 va, .int .i64 vb, .int .i64 s.k, .int .i64 s.a, .int .i64 s.b, .string s.d, .int .i64 s.x.p, .int .i64 s.x.q, .string s.x.d, .int .i64 s.y.p, .int .i64 s.y.q, .string s.y.d, .int .i64 n] 29) = W1 at *
    refine (CO.out _).mono ?_
    rintro e' W2 ⟨rfl, hA⟩
    replace HC := Lib.hid (HC.out.below hA)
    replace HB := bt HB hA
    clear hA CO
    obtain ⟨e0, e1, e2, e3⟩ := held4b (w := W2) (a := false) (b := false) (c := false) (d := true) 58
    have hA := (Below.refl W2.heap.size W2).alloc (Nat.le_refl _) (.cells #[.bool false, .bool false, .bool false, .bool true] 58)
    replace HC := Lib.hid (HC.out.below hA)
    replace HB := bt HB hA
    clear hA
    obtain ⟨c0, c1, c2, c3, c4, c5, c6, c7, c8, c9, c10, c11, c12, c13, c14⟩ := id HC.out
    clear HC
    go_wp2_with fail
    go_ret
    exact ⟨rfl, HB⟩
  have d1 : decide (n < 0) = false := decide_eq_false g0
  by_cases g1 : 1 < n
  case pos =>
    rw [if_pos (by omega)] at h
    subst h
    have d2 : decide (1 < n) = true := decide_eq_true g1
    clear g0 g1
    have HC := Lib.hid (MC.new w k ex va vb s n 29)
    have HB : Below w.heap.size w (w.alloc (.cells #[.int .i64 k, .int .i64 ex, .int .i64 va, .int .i64 vb, .int .i64 s.k, .int .i64 s.a, .int .i64 s.b, .string s.d, .int .i64 s.x.p, .int .i64 s.x.q, .string s.x.d, .int .i64 s.y.p, .int .i64 s.y.q, .string s.y.d, .int .i64 n] 29)) := (Below.refl _ _).alloc (Nat.le_refl _) _
    obtain ⟨c0, c1, c2, c3, c4, c5, c6, c7, c8, c9, c10, c11, c12, c13, c14⟩ := id HC.out
    go_enter Try.func12, Try.ntmps12
    go_wp2_with fail
    clear c0 c1 c2 c3 c4 c5 c6 c7 c8 c9 c10 c11 c12 c13 c14
    generalize w.alloc (.cells #[.int .i64 k, .int .i64 ex, .int .i64 va, .int .i64 vb, .int .i64 s.k, .int .i64 s.a, .int .i64 s.b, .string s.d, .int .i64 s.x.p, .int .i64 s.x.q, .string s.x.d, .int .i64 s.y.p, .int .i64 s.y.q, .string s.y.d, .int .i64 n] 29) = W1 at *
    refine (CO.out _).mono ?_
    rintro e' W2 ⟨rfl, hA⟩
    replace HC := Lib.hid (HC.out.below hA)
    replace HB := bt HB hA
    clear hA CO
    obtain ⟨e0, e1, e2, e3⟩ := held4b (w := W2) (a := false) (b := false) (c := false) (d := true) 58
    have hA := (Below.refl W2.heap.size W2).alloc (Nat.le_refl _) (.cells #[.bool false, .bool false, .bool false, .bool true] 58)
    replace HC := Lib.hid (HC.out.below hA)
    replace HB := bt HB hA
    clear hA
    obtain ⟨c0, c1, c2, c3, c4, c5, c6, c7, c8, c9, c10, c11, c12, c13, c14⟩ := id HC.out
    clear HC
    go_wp2_with fail
    go_ret
    exact ⟨rfl, HB⟩
  have d2 : decide (1 < n) = false := decide_eq_false g1
  by_cases g2 : ex ≠ 0
  case pos =>
    have hE : E = 4 := by rw [← h]; simp_all; try omega
    subst hE
    clear h
    have dx : (ex != 0) = true := bne_iff_ne.2 g2
    clear g0 g1 g2
    have HC := Lib.hid (MC.new w k ex va vb s n 29)
    have HB : Below w.heap.size w (w.alloc (.cells #[.int .i64 k, .int .i64 ex, .int .i64 va, .int .i64 vb, .int .i64 s.k, .int .i64 s.a, .int .i64 s.b, .string s.d, .int .i64 s.x.p, .int .i64 s.x.q, .string s.x.d, .int .i64 s.y.p, .int .i64 s.y.q, .string s.y.d, .int .i64 n] 29)) := (Below.refl _ _).alloc (Nat.le_refl _) _
    obtain ⟨c0, c1, c2, c3, c4, c5, c6, c7, c8, c9, c10, c11, c12, c13, c14⟩ := id HC.out
    go_enter Try.func12, Try.ntmps12
    go_wp2_with fail
    clear c0 c1 c2 c3 c4 c5 c6 c7 c8 c9 c10 c11 c12 c13 c14
    generalize w.alloc (.cells #[.int .i64 k, .int .i64 ex, .int .i64 va, .int .i64 vb, .int .i64 s.k, .int .i64 s.a, .int .i64 s.b, .string s.d, .int .i64 s.x.p, .int .i64 s.x.q, .string s.x.d, .int .i64 s.y.p, .int .i64 s.y.q, .string s.y.d, .int .i64 n] 29) = W1 at *
    refine (CO.out _).mono ?_
    rintro e' W2 ⟨rfl, hA⟩
    replace HC := Lib.hid (HC.out.below hA)
    replace HB := bt HB hA
    clear hA CO
    obtain ⟨e0, e1, e2, e3⟩ := held4b (w := W2) (a := false) (b := false) (c := false) (d := true) 58
    have hA := (Below.refl W2.heap.size W2).alloc (Nat.le_refl _) (.cells #[.bool false, .bool false, .bool false, .bool true] 58)
    replace HC := Lib.hid (HC.out.below hA)
    replace HB := bt HB hA
    clear hA
    obtain ⟨c0, c1, c2, c3, c4, c5, c6, c7, c8, c9, c10, c11, c12, c13, c14⟩ := id HC.out
    clear HC
    go_wp2_with fail
    go_ret
    exact ⟨rfl, HB⟩
  have dx : (ex != 0) = false := bne_eq_false_iff_eq.2 (Classical.not_not.1 g2)
  by_cases g3 : ¬ (va = 0 ∧ vb = 0)
  case pos =>
    have hE : E = 4 := by rw [← h]; simp_all; try omega
    subst hE
    clear h
    have qv := fun W => v0ne_n g3 W
    clear g0 g1 g2 g3
    have HC := Lib.hid (MC.new w k ex va vb s n 29)
    have HB : Below w.heap.size w (w.alloc (.cells #[.int .i64 k, .int .i64 ex, .int .i64 va, .int .i64 vb, .int .i64 s.k, .int .i64 s.a, .int .i64 s.b, .string s.d, .int .i64 s.x.p, .int .i64 s.x.q, .string s.x.d, .int .i64 s.y.p, .int .i64 s.y.q, .string s.y.d, .int .i64 n] 29)) := (Below.refl _ _).alloc (Nat.le_refl _) _
    obtain ⟨c0, c1, c2, c3, c4, c5, c6, c7, c8, c9, c10, c11, c12, c13, c14⟩ := id HC.out
    go_enter Try.func12, Try.ntmps12
    go_wp2_with fail
    clear c0 c1 c2 c3 c4 c5 c6 c7 c8 c9 c10 c11 c12 c13 c14
    generalize w.alloc (.cells #[.int .i64 k, .int .i64 ex, .int .i64 va, .int .i64 vb, .int .i64 s.k, .int .i64 s.a, .int .i64 s.b, .string s.d, .int .i64 s.x.p, .int .i64 s.x.q, .string s.x.d, .int .i64 s.y.p, .int .i64 s.y.q, .string s.y.d, .int .i64 n] 29) = W1 at *
    refine (CO.out _).mono ?_
    rintro e' W2 ⟨rfl, hA⟩
    replace HC := Lib.hid (HC.out.below hA)
    replace HB := bt HB hA
    clear hA CO
    obtain ⟨e0, e1, e2, e3⟩ := held4b (w := W2) (a := false) (b := false) (c := false) (d := true) 58
    have hA := (Below.refl W2.heap.size W2).alloc (Nat.le_refl _) (.cells #[.bool false, .bool false, .bool false, .bool true] 58)
    replace HC := Lib.hid (HC.out.below hA)
    replace HB := bt HB hA
    clear hA
    obtain ⟨c0, c1, c2, c3, c4, c5, c6, c7, c8, c9, c10, c11, c12, c13, c14⟩ := id HC.out
    clear HC
    go_wp2_with fail
    go_ret
    exact ⟨rfl, HB⟩
  have qv := fun W => v0ne_y (Classical.not_not.1 g3) W
  by_cases g4 : ¬ szB s = true
  case pos =>
    have hE : E = 4 := by rw [← h]; simp_all; try omega
    subst hE
    clear h
    have qs := fun W => s0ne_n s g4 W
    clear g0 g1 g2 g3 g4
    have HC := Lib.hid (MC.new w k ex va vb s n 29)
    have HB : Below w.heap.size w (w.alloc (.cells #[.int .i64 k, .int .i64 ex, .int .i64 va, .int .i64 vb, .int .i64 s.k, .int .i64 s.a, .int .i64 s.b, .string s.d, .int .i64 s.x.p, .int .i64 s.x.q, .string s.x.d, .int .i64 s.y.p, .int .i64 s.y.q, .string s.y.d, .int .i64 n] 29)) := (Below.refl _ _).alloc (Nat.le_refl _) _
    obtain ⟨c0, c1, c2, c3, c4, c5, c6, c7, c8, c9, c10, c11, c12, c13, c14⟩ := id HC.out
    go_enter Try.func12, Try.ntmps12
    go_wp2_with fail
    clear c0 c1 c2 c3 c4 c5 c6 c7 c8 c9 c10 c11 c12 c13 c14
    generalize w.alloc (.cells #[.int .i64 k, .int .i64 ex, .int .i64 va, .int .i64 vb, .int .i64 s.k, .int .i64 s.a, .int .i64 s.b, .string s.d, .int .i64 s.x.p, .int .i64 s.x.q, .string s.x.d, .int .i64 s.y.p, .int .i64 s.y.q, .string s.y.d, .int .i64 n] 29) = W1 at *
    refine (CO.out _).mono ?_
    rintro e' W2 ⟨rfl, hA⟩
    replace HC := Lib.hid (HC.out.below hA)
    replace HB := bt HB hA
    clear hA CO
    obtain ⟨e0, e1, e2, e3⟩ := held4b (w := W2) (a := false) (b := false) (c := false) (d := true) 58
    have hA := (Below.refl W2.heap.size W2).alloc (Nat.le_refl _) (.cells #[.bool false, .bool false, .bool false, .bool true] 58)
    replace HC := Lib.hid (HC.out.below hA)
    replace HB := bt HB hA
    clear hA
    obtain ⟨c0, c1, c2, c3, c4, c5, c6, c7, c8, c9, c10, c11, c12, c13, c14⟩ := id HC.out
    clear HC
    go_wp2_with fail
    go_ret
    exact ⟨rfl, HB⟩
  have qs := fun W => s0ne_y s (Classical.not_not.1 g4) W
  have hE : E = 0 := by rw [← h]; simp_all; try omega
  subst hE
  clear h g0 g1 g2 g3 g4
  have HC := Lib.hid (MC.new w k ex va vb s n 29)
  have HB : Below w.heap.size w (w.alloc (.cells #[.int .i64 k, .int .i64 ex, .int .i64 va, .int .i64 vb, .int .i64 s.k, .int .i64 s.a, .int .i64 s.b, .string s.d, .int .i64 s.x.p, .int .i64 s.x.q, .string s.x.d, .int .i64 s.y.p, .int .i64 s.y.q, .string s.y.d, .int .i64 n] 29)) := (Below.refl _ _).alloc (Nat.le_refl _) _
  obtain ⟨c0, c1, c2, c3, c4, c5, c6, c7, c8, c9, c10, c11, c12, c13, c14⟩ := id HC.out
  go_enter Try.func12, Try.ntmps12
  go_wp2_with fail
  clear c0 c1 c2 c3 c4 c5 c6 c7 c8 c9 c10 c11 c12 c13 c14
  generalize w.alloc (.cells #[.int .i64 k, .int .i64 ex, .int .i64 va, .int .i64 vb, .int .i64 s.k, .int .i64 s.a, .int .i64 s.b, .string s.d, .int .i64 s.x.p, .int .i64 s.x.q, .string s.x.d, .int .i64 s.y.p, .int .i64 s.y.q, .string s.y.d, .int .i64 n] 29) = W1 at *
  refine (CO.out _).mono ?_
  rintro e' W2 ⟨rfl, hA⟩
  replace HC := Lib.hid (HC.out.below hA)
  replace HB := bt HB hA
  clear hA CO
  obtain ⟨e0, e1, e2, e3⟩ := held4b (w := W2) (a := false) (b := false) (c := false) (d := true) 58
  have hA := (Below.refl W2.heap.size W2).alloc (Nat.le_refl _) (.cells #[.bool false, .bool false, .bool false, .bool true] 58)
  replace HC := Lib.hid (HC.out.below hA)
  replace HB := bt HB hA
  clear hA
  obtain ⟨c0, c1, c2, c3, c4, c5, c6, c7, c8, c9, c10, c11, c12, c13, c14⟩ := id HC.out
  clear HC
  go_wp2_with fail
  go_ret
  exact ⟨rfl, HB⟩
theorem rwchk_at {k ex va vb : Int} {s : St} {n E : Int} (h : mchk ⟨k, ex, va, vb, s, n⟩ = E) (w : World) : Calls Try.prog 12 #[MV k ex va vb s n] w fun e' w' => e' = .returned (.int .i64 E) ∧ Below w.heap.size w w' := by
  rcases kinds k with g | g | g | g | g | g
  · rw [mchk_x (m := ⟨k, ex, va, vb, s, n⟩) g] at h; subst h; exact rwchk_x g w
  · exact rwchk_A g h w
  · exact rwchk_B g h w
  · exact rwchk_C g h w
  · exact rwchk_D7 g h w
  · exact rwchk_D8 g h w
end Go.Proofs.Ytemfdmbjlmiopaa
