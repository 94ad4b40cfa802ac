/-
  Messages as bytes (chapter 25): the program's check.
-/
import Derived.Test.YtemfdmbjlmiopaaWire
namespace Go.Proofs.Ytemfdmbjlmiopaa
open Go.RowKit
set_option linter.unusedVariables false
set_option linter.unusedSimpArgs false
/-- block g is a message's box -/
def MC (W : World) (g : Nat) (m : Mg) : Prop := W.cell? ⟨g, 0, none⟩ = some (.int .i64 m.k) ∧ W.cell? ⟨g, 1, none⟩ = some (.int .i64 m.ex) ∧ W.cell? ⟨g, 2, none⟩ = some (.int .i64 m.va) ∧ W.cell? ⟨g, 3, none⟩ = some (.int .i64 m.vb) ∧
  W.cell? ⟨g, 4, none⟩ = some (.int .i64 m.s.k) ∧ W.cell? ⟨g, 5, none⟩ = some (.int .i64 m.s.a) ∧ W.cell? ⟨g, 6, none⟩ = some (.int .i64 m.s.b) ∧ W.cell? ⟨g, 7, none⟩ = some (.string m.s.d) ∧ W.cell? ⟨g, 8, none⟩ = some (.int .i64 m.s.x.p) ∧ W.cell? ⟨g, 9, none⟩ = some (.int .i64 m.s.x.q) ∧ W.cell? ⟨g, 10, none⟩ = some (.string m.s.x.d) ∧
  W.cell? ⟨g, 11, none⟩ = some (.int .i64 m.s.y.p) ∧ W.cell? ⟨g, 12, none⟩ = some (.int .i64 m.s.y.q) ∧ W.cell? ⟨g, 13, none⟩ = some (.string m.s.y.d) ∧ W.cell? ⟨g, 14, none⟩ = some (.int .i64 m.n)
theorem MC.below {W W' : World} {g : Nat} {m : Mg} (h : MC W g m) (hb : Below W.heap.size W W') : MC W' g m := by
  obtain ⟨c0, c1, c2, c3, c4, c5, c6, c7, c8, c9, c10, c11, c12, c13, c14⟩ := h
  exact ⟨bkeep hb c0, bkeep hb c1, bkeep hb c2, bkeep hb c3, bkeep hb c4, bkeep hb c5, bkeep hb c6, bkeep hb c7, bkeep hb c8, bkeep hb c9, bkeep hb c10, bkeep hb c11, bkeep hb c12, bkeep hb c13, bkeep hb c14⟩
theorem MC.lt {W : World} {g : Nat} {m : Mg} (h : MC W g m) : g < W.heap.size := World.block_lt_of_cell? W _ h.1
theorem MC.new (W : World) (k ex va vb : Int) (s : St) (n : Int) (T : TypeId) : MC (W.alloc (.cells #[.int .i64 k, .int .i64 ex, .int .i64 va, .int .i64 vb, .int .i64 s.k, .int .i64 s.a, .int .i64 s.b, .string s.d, .int .i64 s.x.p, .int .i64 s.x.q, .string s.x.d, .int .i64 s.y.p, .int .i64 s.y.q, .string s.y.d, .int .i64 n] T)) W.heap.size ⟨k, ex, va, vb, s, n⟩ := by
  refine ⟨?_, ?_, ?_, ?_, ?_, ?_, ?_, ?_, ?_, ?_, ?_, ?_, ?_, ?_, ?_⟩ <;> simp [go_sem]
theorem held4b {w : World} {a b c d : Bool} (T : TypeId) : let W := w.alloc (.cells #[.bool a, .bool b, .bool c, .bool d] T)
    W.cell? ⟨w.heap.size, 0, none⟩ = some (.bool a) ∧ W.cell? ⟨w.heap.size, 1, none⟩ = some (.bool b) ∧ W.cell? ⟨w.heap.size, 2, none⟩ = some (.bool c) ∧ W.cell? ⟨w.heap.size, 3, none⟩ = some (.bool d) := by
  simp [go_sem]
abbrev MV0 : Value := .agg #[.int .i64 0, .int .i64 0, .int .i64 0, .int .i64 0, .int .i64 0, .int .i64 0, .int .i64 0, .string ⟨#[]⟩, .int .i64 0, .int .i64 0, .string ⟨#[]⟩, .int .i64 0, .int .i64 0, .string ⟨#[]⟩, .int .i64 0]
set_option maxHeartbeats 1600000 in
theorem mne_z (W : World) : (binOp .neq 29 MV0 MV0).run Try.prog W = .ok (.bool false) W := by
  simp [go_sem]
set_option maxHeartbeats 1600000 in
theorem mne_n (ex va vb : Int) (s : St) (n : Int) (h : ¬ (ex = 0 ∧ va = 0 ∧ vb = 0 ∧ szB s = true ∧ n = 0)) (W : World) : (binOp .neq 29 (MV 0 ex va vb s n) MV0).run Try.prog W = .ok (.bool true) W := by
  simp [go_sem]
  simp [szB] at h
  exact h
theorem mne_y (ex va vb : Int) (s : St) (n : Int) (h : ex = 0 ∧ va = 0 ∧ vb = 0 ∧ szB s = true ∧ n = 0) (W : World) : (binOp .neq 29 (MV 0 ex va vb s n) MV0).run Try.prog W = .ok (.bool false) W := by
  obtain ⟨rfl, rfl, rfl, h1, rfl⟩ := h
  rw [sz_nil h1]
  exact mne_z W
theorem sz_nil' {s : St} (h : szB s = true) : s = ⟨0, 0, 0, ⟨#[]⟩, ⟨0, 0, ⟨#[]⟩⟩, ⟨0, 0, ⟨#[]⟩⟩⟩ := sz_nil h
theorem right_at {a b : Int} {x : Bool} (h : rightB a b = x) (w : World) : Calls Try.prog 30 #[VV a b] w fun e w' => e = .returned (.bool x) ∧ Below w.heap.size w w' := h ▸ right_any a b w
theorem rright_at {a b : Int} {x : Bool} (h : rightB a b = x) (w : World) : Calls Try.prog 33 #[VV a b] w fun e w' => e = .returned (.bool x) ∧ Below w.heap.size w w' := h ▸ rright_any a b w
theorem wwithin_at {n m : Int} {x : Bool} (h : decide (0 ≤ n ∧ n ≤ m) = x) (w : World) : Calls Try.prog 29 #[.int .i64 n, .int .i64 m] w fun e w' => e = .returned (.bool x) ∧ w = w' := h ▸ wwithin_any n m w
theorem sck_at {s : St} {E : Int} (h : chkE s = E) (w : World) : Calls Try.prog 31 #[s.v] w fun e' w' => e' = .returned (.int .i64 E) ∧ Below w.heap.size w w' := h ▸ check_any s.k s.a s.b s.d s.x.p s.x.q s.x.d s.y.p s.y.q s.y.d w
theorem rsck_at {s : St} {E : Int} (h : chkE s = E) (w : World) : Calls Try.prog 34 #[s.v] w fun e' w' => e' = .returned (.int .i64 E) ∧ Below w.heap.size w w' := h ▸ rcheck_any s.k s.a s.b s.d s.x.p s.x.q s.x.d s.y.p s.y.q s.y.d w
set_option maxRecDepth 20000 in
set_option maxHeartbeats 3200000 in
theorem wchk_x {k ex va vb : Int} {s : St} {n : Int} (hk : k < 1 ∨ 8 < k) (w : World) : Calls Try.prog 11 #[MV k ex va vb s n] w fun e' w' => e' = .returned (.int .i64 7) ∧ Below w.heap.size w w' := by
  have CO := Lib.hid (fun w => of_no k w hk)
  have HC := Lib.hid (MC.new w k ex va vb s n 29)
  have HB : Below w.heap.size w (w.alloc (.cells #[.int .i64 k, .int .i64 ex, .int .i64 va, .int .i64 vb, .int .i64 s.k, .int .i64 s.a, .int .i64 s.b, .string s.d, .int .i64 s.x.p, .int .i64 s.x.q, .string s.x.d, .int .i64 s.y.p, .int .i64 s.y.q, .string s.y.d, .int .i64 n] 29)) := (Below.refl _ _).alloc (Nat.le_refl _) _
  obtain ⟨c0, c1, c2, c3, c4, c5, c6, c7, c8, c9, c10, c11, c12, c13, c14⟩ := id HC.out
  go_enter Try.func11, Try.ntmps11
  go_wp2_with fail
  clear c0 c1 c2 c3 c4 c5 c6 c7 c8 c9 c10 c11 c12 c13 c14
  generalize w.alloc (.cells #[.int .i64 k, .int .i64 ex, .int .i64 va, .int .i64 vb, .int .i64 s.k, .int .i64 s.a, .int .i64 s.b, .string s.d, .int .i64 s.x.p, .int .i64 s.x.q, .string s.x.d, .int .i64 s.y.p, .int .i64 s.y.q, .string s.y.d, .int .i64 n] 29) = W1 at *
  refine (CO.out _).mono ?_
  rintro e' W2 ⟨rfl, hA⟩
  replace HC := Lib.hid (HC.out.below hA)
  replace HB := bt HB hA
  clear hA CO
  obtain ⟨e0, e1, e2, e3⟩ := held4b (w := W2) (a := false) (b := false) (c := false) (d := false) 52
  have hA := (Below.refl W2.heap.size W2).alloc (Nat.le_refl _) (.cells #[.bool false, .bool false, .bool false, .bool false] 52)
  replace HC := Lib.hid (HC.out.below hA)
  replace HB := bt HB hA
  clear hA
  obtain ⟨c0, c1, c2, c3, c4, c5, c6, c7, c8, c9, c10, c11, c12, c13, c14⟩ := id HC.out
  clear HC
  go_wp2_with fail
  go_ret
  exact ⟨rfl, HB⟩
set_option maxRecDepth 20000 in
set_option maxHeartbeats 6400000 in
theorem wchk_A {k ex va vb : Int} {s : St} {n E : Int} (hk : k = 1 ∨ k = 4 ∨ k = 5) (h : mchk ⟨k, ex, va, vb, s, n⟩ = E) (w : World) : Calls Try.prog 11 #[MV k ex va vb s n] w fun e' w' => e' = .returned (.int .i64 E) ∧ Below w.heap.size w w' := by
  rw [mchk_A (m := ⟨k, ex, va, vb, s, n⟩) hk] at h
  simp only at h
  have CO := Lib.hid (fun w => of_ok k w (by omega))
  obtain ⟨t0, t1, t2, t3⟩ := tA hk
  rw [t0, t1, t2, t3] at CO
  have k8 : (k == 8) = false := beq_eq_false_iff_ne.2 (by omega)
  clear t0 t1 t2 t3
  by_cases hx : 0 ≤ ex ∧ ex ≤ 23
  case neg =>
    rw [if_pos (by omega)] at h
    subst h
    have C1 := Lib.hid (fun w => wwithin_at (decide_eq_false hx) w)
    clear hx hk
    have HC := Lib.hid (MC.new w k ex va vb s n 29)
    have HB : Below w.heap.size w (w.alloc (.cells #[.int .i64 k, .int .i64 ex, .int .i64 va, .int .i64 vb, .int .i64 s.k, .int .i64 s.a, .int .i64 s.b, .string s.d, .int .i64 s.x.p, .int .i64 s.x.q, .string s.x.d, .int .i64 s.y.p, .int .i64 s.y.q, .string s.y.d, .int .i64 n] 29)) := (Below.refl _ _).alloc (Nat.le_refl _) _
    obtain ⟨c0, c1, c2, c3, c4, c5, c6, c7, c8, c9, c10, c11, c12, c13, c14⟩ := id HC.out
    go_enter Try.func11, Try.ntmps11
    go_wp2_with fail
    clear c0 c1 c2 c3 c4 c5 c6 c7 c8 c9 c10 c11 c12 c13 c14
    generalize w.alloc (.cells #[.int .i64 k, .int .i64 ex, .int .i64 va, .int .i64 vb, .int .i64 s.k, .int .i64 s.a, .int .i64 s.b, .string s.d, .int .i64 s.x.p, .int .i64 s.x.q, .string s.x.d, .int .i64 s.y.p, .int .i64 s.y.q, .string s.y.d, .int .i64 n] 29) = W1 at *
    refine (CO.out _).mono ?_
    rintro e' W2 ⟨rfl, hA⟩
    replace HC := Lib.hid (HC.out.below hA)
    replace HB := bt HB hA
    clear hA CO
    obtain ⟨e0, e1, e2, e3⟩ := held4b (w := W2) (a := true) (b := true) (c := false) (d := false) 52
    have hA := (Below.refl W2.heap.size W2).alloc (Nat.le_refl _) (.cells #[.bool true, .bool true, .bool false, .bool false] 52)
    replace HC := Lib.hid (HC.out.below hA)
    replace HB := bt HB hA
    clear hA
    obtain ⟨c0, c1, c2, c3, c4, c5, c6, c7, c8, c9, c10, c11, c12, c13, c14⟩ := id HC.out
    clear HC
    go_wp2_with (first | (go_at_call 29; (with_reducible refine (C1.out _).mono ?_); clear C1; rintro e' w5 ⟨rfl, rfl⟩))
    go_ret
    exact ⟨rfl, HB⟩
  have C1 := Lib.hid (fun w => wwithin_at (decide_eq_true hx) w)
  cases hr : rightB va vb
  case false =>
    rw [if_pos (.inr (.inr hr))] at h
    subst h
    have C2 := Lib.hid (fun w => right_at hr w)
    clear hx hk hr
    have HC := Lib.hid (MC.new w k ex va vb s n 29)
    have HB : Below w.heap.size w (w.alloc (.cells #[.int .i64 k, .int .i64 ex, .int .i64 va, .int .i64 vb, .int .i64 s.k, .int .i64 s.a, .int .i64 s.b, .string s.d, .int .i64 s.x.p, .int .i64 s.x.q, .string s.x.d, .int .i64 s.y.p, .int .i64 s.y.q, .string s.y.d, .int .i64 n] 29)) := (Below.refl _ _).alloc (Nat.le_refl _) _
    obtain ⟨c0, c1, c2, c3, c4, c5, c6, c7, c8, c9, c10, c11, c12, c13, c14⟩ := id HC.out
    go_enter Try.func11, Try.ntmps11
    go_wp2_with fail
    clear c0 c1 c2 c3 c4 c5 c6 c7 c8 c9 c10 c11 c12 c13 c14
    generalize w.alloc (.cells #[.int .i64 k, .int .i64 ex, .int .i64 va, .int .i64 vb, .int .i64 s.k, .int .i64 s.a, .int .i64 s.b, .string s.d, .int .i64 s.x.p, .int .i64 s.x.q, .string s.x.d, .int .i64 s.y.p, .int .i64 s.y.q, .string s.y.d, .int .i64 n] 29) = W1 at *
    refine (CO.out _).mono ?_
    rintro e' W2 ⟨rfl, hA⟩
    replace HC := Lib.hid (HC.out.below hA)
    replace HB := bt HB hA
    clear hA CO
    obtain ⟨e0, e1, e2, e3⟩ := held4b (w := W2) (a := true) (b := true) (c := false) (d := false) 52
    have hA := (Below.refl W2.heap.size W2).alloc (Nat.le_refl _) (.cells #[.bool true, .bool true, .bool false, .bool false] 52)
    replace HC := Lib.hid (HC.out.below hA)
    replace HB := bt HB hA
    clear hA
    obtain ⟨c0, c1, c2, c3, c4, c5, c6, c7, c8, c9, c10, c11, c12, c13, c14⟩ := id HC.out
    clear HC
    go_wp2_with (first | (go_at_call 29; (with_reducible refine (C1.out _).mono ?_); clear C1; rintro e' w5 ⟨rfl, rfl⟩) | (go_at_call 30; (with_reducible refine (C2.out _).mono ?_); clear C2; rintro e' w5 ⟨rfl, hA⟩; replace c0 := bkeep hA c0; replace c1 := bkeep hA c1; replace c2 := bkeep hA c2; replace c3 := bkeep hA c3; replace c4 := bkeep hA c4; replace c5 := bkeep hA c5; replace c6 := bkeep hA c6; replace c7 := bkeep hA c7; replace c8 := bkeep hA c8; replace c9 := bkeep hA c9; replace c10 := bkeep hA c10; replace c11 := bkeep hA c11; replace c12 := bkeep hA c12; replace c13 := bkeep hA c13; replace c14 := bkeep hA c14; replace e0 := bkeep hA e0; replace e1 := bkeep hA e1; replace e2 := bkeep hA e2; replace e3 := bkeep hA e3; replace HB := bt HB hA; clear hA))
    go_ret
    exact ⟨rfl, HB⟩
  have C2 := Lib.hid (fun w => right_at hr w)
  rw [hr, if_neg (by simp; omega)] at h
  clear hx hk hr
  have C3 := Lib.hid (fun w => spare_A k ex va vb s n w)
  by_cases hz : szB s = true ∧ n = 0
  case pos =>
    rw [if_pos hz] at h
    subst h
    have hq := fun W => mne_y 0 0 0 s n (⟨rfl, rfl, rfl, hz.1, hz.2⟩) W
    clear hz
    have HC := Lib.hid (MC.new w k ex va vb s n 29)
    have HB : Below w.heap.size w (w.alloc (.cells #[.int .i64 k, .int .i64 ex, .int .i64 va, .int .i64 vb, .int .i64 s.k, .int .i64 s.a, .int .i64 s.b, .string s.d, .int .i64 s.x.p, .int .i64 s.x.q, .string s.x.d, .int .i64 s.y.p, .int .i64 s.y.q, .string s.y.d, .int .i64 n] 29)) := (Below.refl _ _).alloc (Nat.le_refl _) _
    obtain ⟨c0, c1, c2, c3, c4, c5, c6, c7, c8, c9, c10, c11, c12, c13, c14⟩ := id HC.out
    go_enter Try.func11, Try.ntmps11
    go_wp2_with fail
    clear c0 c1 c2 c3 c4 c5 c6 c7 c8 c9 c10 c11 c12 c13 c14
    generalize w.alloc (.cells #[.int .i64 k, .int .i64 ex, .int .i64 va, .int .i64 vb, .int .i64 s.k, .int .i64 s.a, .int .i64 s.b, .string s.d, .int .i64 s.x.p, .int .i64 s.x.q, .string s.x.d, .int .i64 s.y.p, .int .i64 s.y.q, .string s.y.d, .int .i64 n] 29) = W1 at *
    refine (CO.out _).mono ?_
    rintro e' W2 ⟨rfl, hA⟩
    replace HC := Lib.hid (HC.out.below hA)
    replace HB := bt HB hA
    clear hA CO
    obtain ⟨e0, e1, e2, e3⟩ := held4b (w := W2) (a := true) (b := true) (c := false) (d := false) 52
    have hA := (Below.refl W2.heap.size W2).alloc (Nat.le_refl _) (.cells #[.bool true, .bool true, .bool false, .bool false] 52)
    replace HC := Lib.hid (HC.out.below hA)
    replace HB := bt HB hA
    clear hA
    obtain ⟨c0, c1, c2, c3, c4, c5, c6, c7, c8, c9, c10, c11, c12, c13, c14⟩ := id HC.out
    clear HC
    go_wp2_with (first | (go_at_call 29; (with_reducible refine (C1.out _).mono ?_); clear C1; rintro e' w5 ⟨rfl, rfl⟩) | (go_at_call 30; (with_reducible refine (C2.out _).mono ?_); clear C2; rintro e' w5 ⟨rfl, hA⟩; replace c0 := bkeep hA c0; replace c1 := bkeep hA c1; replace c2 := bkeep hA c2; replace c3 := bkeep hA c3; replace c4 := bkeep hA c4; replace c5 := bkeep hA c5; replace c6 := bkeep hA c6; replace c7 := bkeep hA c7; replace c8 := bkeep hA c8; replace c9 := bkeep hA c9; replace c10 := bkeep hA c10; replace c11 := bkeep hA c11; replace c12 := bkeep hA c12; replace c13 := bkeep hA c13; replace c14 := bkeep hA c14; replace e0 := bkeep hA e0; replace e1 := bkeep hA e1; replace e2 := bkeep hA e2; replace e3 := bkeep hA e3; replace HB := bt HB hA; clear hA) | (go_at_call 32; (with_reducible refine (C3.out _).mono ?_); clear C3; rintro e' w5 ⟨rfl, hA⟩; replace c0 := bkeep hA c0; replace c1 := bkeep hA c1; replace c2 := bkeep hA c2; replace c3 := bkeep hA c3; replace c4 := bkeep hA c4; replace c5 := bkeep hA c5; replace c6 := bkeep hA c6; replace c7 := bkeep hA c7; replace c8 := bkeep hA c8; replace c9 := bkeep hA c9; replace c10 := bkeep hA c10; replace c11 := bkeep hA c11; replace c12 := bkeep hA c12; replace c13 := bkeep hA c13; replace c14 := bkeep hA c14; replace e0 := bkeep hA e0; replace e1 := bkeep hA e1; replace e2 := bkeep hA e2; replace e3 := bkeep hA e3; replace HB := bt HB hA; clear hA))
    go_ret
    exact ⟨rfl, HB⟩
  case neg =>
    rw [if_neg hz] at h
    subst h
    have hq := fun W => mne_n 0 0 0 s n (fun g => hz g.2.2.2) W
    clear hz
    have HC := Lib.hid (MC.new w k ex va vb s n 29)
    have HB : Below w.heap.size w (w.alloc (.cells #[.int .i64 k, .int .i64 ex, .int .i64 va, .int .i64 vb, .int .i64 s.k, .int .i64 s.a, .int .i64 s.b, .string s.d, .int .i64 s.x.p, .int .i64 s.x.q, .string s.x.d, .int .i64 s.y.p, .int .i64 s.y.q, .string s.y.d, .int .i64 n] 29)) := (Below.refl _ _).alloc (Nat.le_refl _) _
    obtain ⟨c0, c1, c2, c3, c4, c5, c6, c7, c8, c9, c10, c11, c12, c13, c14⟩ := id HC.out
    go_enter Try.func11, Try.ntmps11
    go_wp2_with fail
    clear c0 c1 c2 c3 c4 c5 c6 c7 c8 c9 c10 c11 c12 c13 c14
    generalize w.alloc (.cells #[.int .i64 k, .int .i64 ex, .int .i64 va, .int .i64 vb, .int .i64 s.k, .int .i64 s.a, .int .i64 s.b, .string s.d, .int .i64 s.x.p, .int .i64 s.x.q, .string s.x.d, .int .i64 s.y.p, .int .i64 s.y.q, .string s.y.d, .int .i64 n] 29) = W1 at *
    refine (CO.out _).mono ?_
    rintro e' W2 ⟨rfl, hA⟩
    replace HC := Lib.hid (HC.out.below hA)
    replace HB := bt HB hA
    clear hA CO
    obtain ⟨e0, e1, e2, e3⟩ := held4b (w := W2) (a := true) (b := true) (c := false) (d := false) 52
    have hA := (Below.refl W2.heap.size W2).alloc (Nat.le_refl _) (.cells #[.bool true, .bool true, .bool false, .bool false] 52)
    replace HC := Lib.hid (HC.out.below hA)
    replace HB := bt HB hA
    clear hA
    obtain ⟨c0, c1, c2, c3, c4, c5, c6, c7, c8, c9, c10, c11, c12, c13, c14⟩ := id HC.out
    clear HC
    go_wp2_with (first | (go_at_call 29; (with_reducible refine (C1.out _).mono ?_); clear C1; rintro e' w5 ⟨rfl, rfl⟩) | (go_at_call 30; (with_reducible refine (C2.out _).mono ?_); clear C2; rintro e' w5 ⟨rfl, hA⟩; replace c0 := bkeep hA c0; replace c1 := bkeep hA c1; replace c2 := bkeep hA c2; replace c3 := bkeep hA c3; replace c4 := bkeep hA c4; replace c5 := bkeep hA c5; replace c6 := bkeep hA c6; replace c7 := bkeep hA c7; replace c8 := bkeep hA c8; replace c9 := bkeep hA c9; replace c10 := bkeep hA c10; replace c11 := bkeep hA c11; replace c12 := bkeep hA c12; replace c13 := bkeep hA c13; replace c14 := bkeep hA c14; replace e0 := bkeep hA e0; replace e1 := bkeep hA e1; replace e2 := bkeep hA e2; replace e3 := bkeep hA e3; replace HB := bt HB hA; clear hA) | (go_at_call 32; (with_reducible refine (C3.out _).mono ?_); clear C3; rintro e' w5 ⟨rfl, hA⟩; replace c0 := bkeep hA c0; replace c1 := bkeep hA c1; replace c2 := bkeep hA c2; replace c3 := bkeep hA c3; replace c4 := bkeep hA c4; replace c5 := bkeep hA c5; replace c6 := bkeep hA c6; replace c7 := bkeep hA c7; replace c8 := bkeep hA c8; replace c9 := bkeep hA c9; replace c10 := bkeep hA c10; replace c11 := bkeep hA c11; replace c12 := bkeep hA c12; replace c13 := bkeep hA c13; replace c14 := bkeep hA c14; replace e0 := bkeep hA e0; replace e1 := bkeep hA e1; replace e2 := bkeep hA e2; replace e3 := bkeep hA e3; replace HB := bt HB hA; clear hA))
    go_ret
    exact ⟨rfl, HB⟩
set_option maxRecDepth 20000 in
set_option maxHeartbeats 6400000 in
theorem wchk_B {k ex va vb : Int} {s : St} {n E : Int} (hk : k = 2 ∨ k = 6) (h : mchk ⟨k, ex, va, vb, s, n⟩ = E) (w : World) : Calls Try.prog 11 #[MV k ex va vb s n] w fun e' w' => e' = .returned (.int .i64 E) ∧ Below w.heap.size w w' := by
  rw [mchk_B (m := ⟨k, ex, va, vb, s, n⟩) hk] at h
  simp only at h
  have CO := Lib.hid (fun w => of_ok k w (by omega))
  obtain ⟨t0, t1, t2, t3⟩ := tB hk
  rw [t0, t1, t2, t3] at CO
  have k8 : (k == 8) = false := beq_eq_false_iff_ne.2 (by omega)
  clear t0 t1 t2 t3
  by_cases hx : 0 ≤ ex ∧ ex ≤ 23
  case neg =>
    rw [if_pos (by omega)] at h
    subst h
    have C1 := Lib.hid (fun w => wwithin_at (decide_eq_false hx) w)
    clear hx hk
    have HC := Lib.hid (MC.new w k ex va vb s n 29)
    have HB : Below w.heap.size w (w.alloc (.cells #[.int .i64 k, .int .i64 ex, .int .i64 va, .int .i64 vb, .int .i64 s.k, .int .i64 s.a, .int .i64 s.b, .string s.d, .int .i64 s.x.p, .int .i64 s.x.q, .string s.x.d, .int .i64 s.y.p, .int .i64 s.y.q, .string s.y.d, .int .i64 n] 29)) := (Below.refl _ _).alloc (Nat.le_refl _) _
    obtain ⟨c0, c1, c2, c3, c4, c5, c6, c7, c8, c9, c10, c11, c12, c13, c14⟩ := id HC.out
    go_enter Try.func11, Try.ntmps11
    go_wp2_with fail
    clear c0 c1 c2 c3 c4 c5 c6 c7 c8 c9 c10 c11 c12 c13 c14
    generalize w.alloc (.cells #[.int .i64 k, .int .i64 ex, .int .i64 va, .int .i64 vb, .int .i64 s.k, .int .i64 s.a, .int .i64 s.b, .string s.d, .int .i64 s.x.p, .int .i64 s.x.q, .string s.x.d, .int .i64 s.y.p, .int .i64 s.y.q, .string s.y.d, .int .i64 n] 29) = W1 at *
    refine (CO.out _).mono ?_
    rintro e' W2 ⟨rfl, hA⟩
    replace HC := Lib.hid (HC.out.below hA)
    replace HB := bt HB hA
    clear hA CO
    obtain ⟨e0, e1, e2, e3⟩ := held4b (w := W2) (a := true) (b := false) (c := false) (d := false) 52
    have hA := (Below.refl W2.heap.size W2).alloc (Nat.le_refl _) (.cells #[.bool true, .bool false, .bool false, .bool false] 52)
    replace HC := Lib.hid (HC.out.below hA)
    replace HB := bt HB hA
    clear hA
    obtain ⟨c0, c1, c2, c3, c4, c5, c6, c7, c8, c9, c10, c11, c12, c13, c14⟩ := id HC.out
    clear HC
    go_wp2_with (first | (go_at_call 29; (with_reducible refine (C1.out _).mono ?_); clear C1; rintro e' w5 ⟨rfl, rfl⟩))
    go_ret
    exact ⟨rfl, HB⟩
  have C1 := Lib.hid (fun w => wwithin_at (decide_eq_true hx) w)
  rw [if_neg (by omega)] at h
  clear hx hk
  have C3 := Lib.hid (fun w => spare_B k ex va vb s n w)
  by_cases hz : va = 0 ∧ vb = 0 ∧ szB s = true ∧ n = 0
  case pos =>
    rw [if_pos hz] at h
    subst h
    have hq := fun W => mne_y 0 va vb s n (⟨rfl, hz.1, hz.2.1, hz.2.2.1, hz.2.2.2⟩) W
    clear hz
    have HC := Lib.hid (MC.new w k ex va vb s n 29)
    have HB : Below w.heap.size w (w.alloc (.cells #[.int .i64 k, .int .i64 ex, .int .i64 va, .int .i64 vb, .int .i64 s.k, .int .i64 s.a, .int .i64 s.b, .string s.d, .int .i64 s.x.p, .int .i64 s.x.q, .string s.x.d, .int .i64 s.y.p, .int .i64 s.y.q, .string s.y.d, .int .i64 n] 29)) := (Below.refl _ _).alloc (Nat.le_refl _) _
    obtain ⟨c0, c1, c2, c3, c4, c5, c6, c7, c8, c9, c10, c11, c12, c13, c14⟩ := id HC.out
    go_enter Try.func11, Try.ntmps11
    go_wp2_with fail
    clear c0 c1 c2 c3 c4 c5 c6 c7 c8 c9 c10 c11 c12 c13 c14
    generalize w.alloc (.cells #[.int .i64 k, .int .i64 ex, .int .i64 va, .int .i64 vb, .int .i64 s.k, .int .i64 s.a, .int .i64 s.b, .string s.d, .int .i64 s.x.p, .int .i64 s.x.q, .string s.x.d, .int .i64 s.y.p, .int .i64 s.y.q, .string s.y.d, .int .i64 n] 29) = W1 at *
    refine (CO.out _).mono ?_
    rintro e' W2 ⟨rfl, hA⟩
    replace HC := Lib.hid (HC.out.below hA)
    replace HB := bt HB hA
    clear hA CO
    obtain ⟨e0, e1, e2, e3⟩ := held4b (w := W2) (a := true) (b := false) (c := false) (d := false) 52
    have hA := (Below.refl W2.heap.size W2).alloc (Nat.le_refl _) (.cells #[.bool true, .bool false, .bool false, .bool false] 52)
    replace HC := Lib.hid (HC.out.below hA)
    replace HB := bt HB hA
    clear hA
    obtain ⟨c0, c1, c2, c3, c4, c5, c6, c7, c8, c9, c10, c11, c12, c13, c14⟩ := id HC.out
    clear HC
    go_wp2_with (first | (go_at_call 29; (with_reducible refine (C1.out _).mono ?_); clear C1; rintro e' w5 ⟨rfl, rfl⟩) | (go_at_call 32; (with_reducible refine (C3.out _).mono ?_); clear C3; rintro e' w5 ⟨rfl, hA⟩; replace c0 := bkeep hA c0; replace c1 := bkeep hA c1; replace c2 := bkeep hA c2; replace c3 := bkeep hA c3; replace c4 := bkeep hA c4; replace c5 := bkeep hA c5; replace c6 := bkeep hA c6; replace c7 := bkeep hA c7; replace c8 := bkeep hA c8; replace c9 := bkeep hA c9; replace c10 := bkeep hA c10; replace c11 := bkeep hA c11; replace c12 := bkeep hA c12; replace c13 := bkeep hA c13; replace c14 := bkeep hA c14; replace e0 := bkeep hA e0; replace e1 := bkeep hA e1; replace e2 := bkeep hA e2; replace e3 := bkeep hA e3; replace HB := bt HB hA; clear hA))
    go_ret
    exact ⟨rfl, HB⟩
  case neg =>
    rw [if_neg hz] at h
    subst h
    have hq := fun W => mne_n 0 va vb s n (fun g => hz g.2) W
    clear hz
    have HC := Lib.hid (MC.new w k ex va vb s n 29)
    have HB : Below w.heap.size w (w.alloc (.cells #[.int .i64 k, .int .i64 ex, .int .i64 va, .int .i64 vb, .int .i64 s.k, .int .i64 s.a, .int .i64 s.b, .string s.d, .int .i64 s.x.p, .int .i64 s.x.q, .string s.x.d, .int .i64 s.y.p, .int .i64 s.y.q, .string s.y.d, .int .i64 n] 29)) := (Below.refl _ _).alloc (Nat.le_refl _) _
    obtain ⟨c0, c1, c2, c3, c4, c5, c6, c7, c8, c9, c10, c11, c12, c13, c14⟩ := id HC.out
    go_enter Try.func11, Try.ntmps11
    go_wp2_with fail
    clear c0 c1 c2 c3 c4 c5 c6 c7 c8 c9 c10 c11 c12 c13 c14
    generalize w.alloc (.cells #[.int .i64 k, .int .i64 ex, .int .i64 va, .int .i64 vb, .int .i64 s.k, .int .i64 s.a, .int .i64 s.b, .string s.d, .int .i64 s.x.p, .int .i64 s.x.q, .string s.x.d, .int .i64 s.y.p, .int .i64 s.y.q, .string s.y.d, .int .i64 n] 29) = W1 at *
    refine (CO.out _).mono ?_
    rintro e' W2 ⟨rfl, hA⟩
    replace HC := Lib.hid (HC.out.below hA)
    replace HB := bt HB hA
    clear hA CO
    obtain ⟨e0, e1, e2, e3⟩ := held4b (w := W2) (a := true) (b := false) (c := false) (d := false) 52
    have hA := (Below.refl W2.heap.size W2).alloc (Nat.le_refl _) (.cells #[.bool true, .bool false, .bool false, .bool false] 52)
    replace HC := Lib.hid (HC.out.below hA)
    replace HB := bt HB hA
    clear hA
    obtain ⟨c0, c1, c2, c3, c4, c5, c6, c7, c8, c9, c10, c11, c12, c13, c14⟩ := id HC.out
    clear HC
    go_wp2_with (first | (go_at_call 29; (with_reducible refine (C1.out _).mono ?_); clear C1; rintro e' w5 ⟨rfl, rfl⟩) | (go_at_call 32; (with_reducible refine (C3.out _).mono ?_); clear C3; rintro e' w5 ⟨rfl, hA⟩; replace c0 := bkeep hA c0; replace c1 := bkeep hA c1; replace c2 := bkeep hA c2; replace c3 := bkeep hA c3; replace c4 := bkeep hA c4; replace c5 := bkeep hA c5; replace c6 := bkeep hA c6; replace c7 := bkeep hA c7; replace c8 := bkeep hA c8; replace c9 := bkeep hA c9; replace c10 := bkeep hA c10; replace c11 := bkeep hA c11; replace c12 := bkeep hA c12; replace c13 := bkeep hA c13; replace c14 := bkeep hA c14; replace e0 := bkeep hA e0; replace e1 := bkeep hA e1; replace e2 := bkeep hA e2; replace e3 := bkeep hA e3; replace HB := bt HB hA; clear hA))
    go_ret
    exact ⟨rfl, HB⟩
set_option maxRecDepth 20000 in
set_option maxHeartbeats 6400000 in
theorem wchk_C {k ex va vb : Int} {s : St} {n E : Int} (hk : k = 3) (h : mchk ⟨k, ex, va, vb, s, n⟩ = E) (w : World) : Calls Try.prog 11 #[MV k ex va vb s n] w fun e' w' => e' = .returned (.int .i64 E) ∧ Below w.heap.size w w' := by
  rw [mchk_C (m := ⟨k, ex, va, vb, s, n⟩) hk] at h
  simp only at h
  have CO := Lib.hid (fun w => of_ok k w (by omega))
  obtain ⟨t0, t1, t2, t3⟩ := tC hk
  rw [t0, t1, t2, t3] at CO
  have k8 : (k == 8) = false := beq_eq_false_iff_ne.2 (by omega)
  clear t0 t1 t2 t3
  by_cases hx : 0 ≤ ex ∧ ex ≤ 23
  case neg =>
    rw [if_pos (by omega)] at h
    subst h
    have C1 := Lib.hid (fun w => wwithin_at (decide_eq_false hx) w)
    clear hx hk
    have HC := Lib.hid (MC.new w k ex va vb s n 29)
    have HB : Below w.heap.size w (w.alloc (.cells #[.int .i64 k, .int .i64 ex, .int .i64 va, .int .i64 vb, .int .i64 s.k, .int .i64 s.a, .int .i64 s.b, .string s.d, .int .i64 s.x.p, .int .i64 s.x.q, .string s.x.d, .int .i64 s.y.p, .int .i64 s.y.q, .string s.y.d, .int .i64 n] 29)) := (Below.refl _ _).alloc (Nat.le_refl _) _
    obtain ⟨c0, c1, c2, c3, c4, c5, c6, c7, c8, c9, c10, c11, c12, c13, c14⟩ := id HC.out
    go_enter Try.func11, Try.ntmps11
    go_wp2_with fail
    clear c0 c1 c2 c3 c4 c5 c6 c7 c8 c9 c10 c11 c12 c13 c14
    generalize w.alloc (.cells #[.int .i64 k, .int .i64 ex, .int .i64 va, .int .i64 vb, .int .i64 s.k, .int .i64 s.a, .int .i64 s.b, .string s.d, .int .i64 s.x.p, .int .i64 s.x.q, .string s.x.d, .int .i64 s.y.p, .int .i64 s.y.q, .string s.y.d, .int .i64 n] 29) = W1 at *
    refine (CO.out _).mono ?_
    rintro e' W2 ⟨rfl, hA⟩
    replace HC := Lib.hid (HC.out.below hA)
    replace HB := bt HB hA
    clear hA CO
    obtain ⟨e0, e1, e2, e3⟩ := held4b (w := W2) (a := true) (b := false) (c := true) (d := false) 52
    have hA := (Below.refl W2.heap.size W2).alloc (Nat.le_refl _) (.cells #[.bool true, .bool false, .bool true, .bool false] 52)
    replace HC := Lib.hid (HC.out.below hA)
    replace HB := bt HB hA
    clear hA
    obtain ⟨c0, c1, c2, c3, c4, c5, c6, c7, c8, c9, c10, c11, c12, c13, c14⟩ := id HC.out
    clear HC
    go_wp2_with (first | (go_at_call 29; (with_reducible refine (C1.out _).mono ?_); clear C1; rintro e' w5 ⟨rfl, rfl⟩))
    go_ret
    exact ⟨rfl, HB⟩
  have C1 := Lib.hid (fun w => wwithin_at (decide_eq_true hx) w)
  rw [if_neg (by omega)] at h
  clear hx hk
  obtain ⟨X, hX⟩ : ∃ X, chkE s = X := ⟨_, rfl⟩
  have C2 := Lib.hid (fun w => sck_at hX w)
  rw [hX] at h
  clear hX
  by_cases hx0 : X = 0
  case neg =>
    rw [if_pos hx0] at h
    subst h
    have n1 : (X != 0) = true := bne_iff_ne.2 hx0
    clear hx0
    have HC := Lib.hid (MC.new w k ex va vb s n 29)
    have HB : Below w.heap.size w (w.alloc (.cells #[.int .i64 k, .int .i64 ex, .int .i64 va, .int .i64 vb, .int .i64 s.k, .int .i64 s.a, .int .i64 s.b, .string s.d, .int .i64 s.x.p, .int .i64 s.x.q, .string s.x.d, .int .i64 s.y.p, .int .i64 s.y.q, .string s.y.d, .int .i64 n] 29)) := (Below.refl _ _).alloc (Nat.le_refl _) _
    obtain ⟨c0, c1, c2, c3, c4, c5, c6, c7, c8, c9, c10, c11, c12, c13, c14⟩ := id HC.out
    go_enter Try.func11, Try.ntmps11
    go_wp2_with fail
    clear c0 c1 c2 c3 c4 c5 c6 c7 c8 c9 c10 c11 c12 c13 c14
    generalize w.alloc (.cells #[.int .i64 k, .int .i64 ex, .int .i64 va, .int .i64 vb, .int .i64 s.k, .int .i64 s.a, .int .i64 s.b, .string s.d, .int .i64 s.x.p, .int .i64 s.x.q, .string s.x.d, .int .i64 s.y.p, .int .i64 s.y.q, .string s.y.d, .int .i64 n] 29) = W1 at *
    refine (CO.out _).mono ?_
    rintro e' W2 ⟨rfl, hA⟩
    replace HC := Lib.hid (HC.out.below hA)
    replace HB := bt HB hA
    clear hA CO
    obtain ⟨e0, e1, e2, e3⟩ := held4b (w := W2) (a := true) (b := false) (c := true) (d := false) 52
    have hA := (Below.refl W2.heap.size W2).alloc (Nat.le_refl _) (.cells #[.bool true, .bool false, .bool true, .bool false] 52)
    replace HC := Lib.hid (HC.out.below hA)
    replace HB := bt HB hA
    clear hA
    obtain ⟨c0, c1, c2, c3, c4, c5, c6, c7, c8, c9, c10, c11, c12, c13, c14⟩ := id HC.out
    clear HC
    go_wp2_with (first | (go_at_call 29; (with_reducible refine (C1.out _).mono ?_); clear C1; rintro e' w5 ⟨rfl, rfl⟩) | (go_at_call 31; (with_reducible refine (C2.out _).mono ?_); clear C2; rintro e' w5 ⟨rfl, hA⟩; replace c0 := bkeep hA c0; replace c1 := bkeep hA c1; replace c2 := bkeep hA c2; replace c3 := bkeep hA c3; replace c4 := bkeep hA c4; replace c5 := bkeep hA c5; replace c6 := bkeep hA c6; replace c7 := bkeep hA c7; replace c8 := bkeep hA c8; replace c9 := bkeep hA c9; replace c10 := bkeep hA c10; replace c11 := bkeep hA c11; replace c12 := bkeep hA c12; replace c13 := bkeep hA c13; replace c14 := bkeep hA c14; replace e0 := bkeep hA e0; replace e1 := bkeep hA e1; replace e2 := bkeep hA e2; replace e3 := bkeep hA e3; replace HB := bt HB hA; clear hA))
    go_ret
    exact ⟨rfl, HB⟩
  subst hx0
  rw [if_neg (by simp)] at h
  have C3 := Lib.hid (fun w => spare_C k ex va vb s n w)
  by_cases hz : va = 0 ∧ vb = 0 ∧ n = 0
  case pos =>
    rw [if_pos hz] at h
    subst h
    have hq := fun W => mne_y 0 va vb St.nil n (⟨rfl, hz.1, hz.2.1, nil_sz, hz.2.2⟩) W
    clear hz
    have HC := Lib.hid (MC.new w k ex va vb s n 29)
    have HB : Below w.heap.size w (w.alloc (.cells #[.int .i64 k, .int .i64 ex, .int .i64 va, .int .i64 vb, .int .i64 s.k, .int .i64 s.a, .int .i64 s.b, .string s.d, .int .i64 s.x.p, .int .i64 s.x.q, .string s.x.d, .int .i64 s.y.p, .int .i64 s.y.q, .string s.y.d, .int .i64 n] 29)) := (Below.refl _ _).alloc (Nat.le_refl _) _
    obtain ⟨c0, c1, c2, c3, c4, c5, c6, c7, c8, c9, c10, c11, c12, c13, c14⟩ := id HC.out
    go_enter Try.func11, Try.ntmps11
    go_wp2_with fail
    clear c0 c1 c2 c3 c4 c5 c6 c7 c8 c9 c10 c11 c12 c13 c14
    generalize w.alloc (.cells #[.int .i64 k, .int .i64 ex, .int .i64 va, .int .i64 vb, .int .i64 s.k, .int .i64 s.a, .int .i64 s.b, .string s.d, .int .i64 s.x.p, .int .i64 s.x.q, .string s.x.d, .int .i64 s.y.p, .int .i64 s.y.q, .string s.y.d, .int .i64 n] 29) = W1 at *
    refine (CO.out _).mono ?_
    rintro e' W2 ⟨rfl, hA⟩
    replace HC := Lib.hid (HC.out.below hA)
    replace HB := bt HB hA
    clear hA CO
    obtain ⟨e0, e1, e2, e3⟩ := held4b (w := W2) (a := true) (b := false) (c := true) (d := false) 52
    have hA := (Below.refl W2.heap.size W2).alloc (Nat.le_refl _) (.cells #[.bool true, .bool false, .bool true, .bool false] 52)
    replace HC := Lib.hid (HC.out.below hA)
    replace HB := bt HB hA
    clear hA
    obtain ⟨c0, c1, c2, c3, c4, c5, c6, c7, c8, c9, c10, c11, c12, c13, c14⟩ := id HC.out
    clear HC
    go_wp2_with (first | (go_at_call 29; (with_reducible refine (C1.out _).mono ?_); clear C1; rintro e' w5 ⟨rfl, rfl⟩) | (go_at_call 31; (with_reducible refine (C2.out _).mono ?_); clear C2; rintro e' w5 ⟨rfl, hA⟩; replace c0 := bkeep hA c0; replace c1 := bkeep hA c1; replace c2 := bkeep hA c2; replace c3 := bkeep hA c3; replace c4 := bkeep hA c4; replace c5 := bkeep hA c5; replace c6 := bkeep hA c6; replace c7 := bkeep hA c7; replace c8 := bkeep hA c8; replace c9 := bkeep hA c9; replace c10 := bkeep hA c10; replace c11 := bkeep hA c11; replace c12 := bkeep hA c12; replace c13 := bkeep hA c13; replace c14 := bkeep hA c14; replace e0 := bkeep hA e0; replace e1 := bkeep hA e1; replace e2 := bkeep hA e2; replace e3 := bkeep hA e3; replace HB := bt HB hA; clear hA) | (go_at_call 32; (with_reducible refine (C3.out _).mono ?_); clear C3; rintro e' w5 ⟨rfl, hA⟩; replace c0 := bkeep hA c0; replace c1 := bkeep hA c1; replace c2 := bkeep hA c2; replace c3 := bkeep hA c3; replace c4 := bkeep hA c4; replace c5 := bkeep hA c5; replace c6 := bkeep hA c6; replace c7 := bkeep hA c7; replace c8 := bkeep hA c8; replace c9 := bkeep hA c9; replace c10 := bkeep hA c10; replace c11 := bkeep hA c11; replace c12 := bkeep hA c12; replace c13 := bkeep hA c13; replace c14 := bkeep hA c14; replace e0 := bkeep hA e0; replace e1 := bkeep hA e1; replace e2 := bkeep hA e2; replace e3 := bkeep hA e3; replace HB := bt HB hA; clear hA))
    go_ret
    exact ⟨rfl, HB⟩
  case neg =>
    rw [if_neg hz] at h
    subst h
    have hq := fun W => mne_n 0 va vb St.nil n (fun g => hz ⟨g.2.1, g.2.2.1, g.2.2.2.2⟩) W
    clear hz
    have HC := Lib.hid (MC.new w k ex va vb s n 29)
    have HB : Below w.heap.size w (w.alloc (.cells #[.int .i64 k, .int .i64 ex, .int .i64 va, .int .i64 vb, .int .i64 s.k, .int .i64 s.a, .int .i64 s.b, .string s.d, .int .i64 s.x.p, .int .i64 s.x.q, .string s.x.d, .int .i64 s.y.p, .int .i64 s.y.q, .string s.y.d, .int .i64 n] 29)) := (Below.refl _ _).alloc (Nat.le_refl _) _
    obtain ⟨c0, c1, c2, c3, c4, c5, c6, c7, c8, c9, c10, c11, c12, c13, c14⟩ := id HC.out
    go_enter Try.func11, Try.ntmps11
    go_wp2_with fail
    clear c0 c1 c2 c3 c4 c5 c6 c7 c8 c9 c10 c11 c12 c13 c14
    generalize w.alloc (.cells #[.int .i64 k, .int .i64 ex, .int .i64 va, .int .i64 vb, .int .i64 s.k, .int .i64 s.a, .int .i64 s.b, .string s.d, .int .i64 s.x.p, .int .i64 s.x.q, .string s.x.d, .int .i64 s.y.p, .int .i64 s.y.q, .string s.y.d, .int .i64 n] 29) = W1 at *
    refine (CO.out _).mono ?_
    rintro e' W2 ⟨rfl, hA⟩
    replace HC := Lib.hid (HC.out.below hA)
    replace HB := bt HB hA
    clear hA CO
    obtain ⟨e0, e1, e2, e3⟩ := held4b (w := W2) (a := true) (b := false) (c := true) (d := false) 52
    have hA := (Below.refl W2.heap.size W2).alloc (Nat.le_refl _) (.cells #[.bool true, .bool false, .bool true, .bool false] 52)
    replace HC := Lib.hid (HC.out.below hA)
    replace HB := bt HB hA
    clear hA
    obtain ⟨c0, c1, c2, c3, c4, c5, c6, c7, c8, c9, c10, c11, c12, c13, c14⟩ := id HC.out
    clear HC
    go_wp2_with (first | (go_at_call 29; (with_reducible refine (C1.out _).mono ?_); clear C1; rintro e' w5 ⟨rfl, rfl⟩) | (go_at_call 31; (with_reducible refine (C2.out _).mono ?_); clear C2; rintro e' w5 ⟨rfl, hA⟩; replace c0 := bkeep hA c0; replace c1 := bkeep hA c1; replace c2 := bkeep hA c2; replace c3 := bkeep hA c3; replace c4 := bkeep hA c4; replace c5 := bkeep hA c5; replace c6 := bkeep hA c6; replace c7 := bkeep hA c7; replace c8 := bkeep hA c8; replace c9 := bkeep hA c9; replace c10 := bkeep hA c10; replace c11 := bkeep hA c11; replace c12 := bkeep hA c12; replace c13 := bkeep hA c13; replace c14 := bkeep hA c14; replace e0 := bkeep hA e0; replace e1 := bkeep hA e1; replace e2 := bkeep hA e2; replace e3 := bkeep hA e3; replace HB := bt HB hA; clear hA) | (go_at_call 32; (with_reducible refine (C3.out _).mono ?_); clear C3; rintro e' w5 ⟨rfl, hA⟩; replace c0 := bkeep hA c0; replace c1 := bkeep hA c1; replace c2 := bkeep hA c2; replace c3 := bkeep hA c3; replace c4 := bkeep hA c4; replace c5 := bkeep hA c5; replace c6 := bkeep hA c6; replace c7 := bkeep hA c7; replace c8 := bkeep hA c8; replace c9 := bkeep hA c9; replace c10 := bkeep hA c10; replace c11 := bkeep hA c11; replace c12 := bkeep hA c12; replace c13 := bkeep hA c13; replace c14 := bkeep hA c14; replace e0 := bkeep hA e0; replace e1 := bkeep hA e1; replace e2 := bkeep hA e2; replace e3 := bkeep hA e3; replace HB := bt HB hA; clear hA))
    go_ret
    exact ⟨rfl, HB⟩
set_option maxRecDepth 20000 in
set_option maxHeartbeats 6400000 in
theorem wchk_D7 {k ex va vb : Int} {s : St} {n E : Int} (hk : k = 7) (h : mchk ⟨k, ex, va, vb, s, n⟩ = E) (w : World) : Calls Try.prog 11 #[MV k ex va vb s n] w fun e' w' => e' = .returned (.int .i64 E) ∧ Below w.heap.size w w' := by
  rw [mchk_D (m := ⟨k, ex, va, vb, s, n⟩) (by simp only; omega)] at h
  simp only at h
  have CO := Lib.hid (fun w => of_ok k w (by omega))
  obtain ⟨t0, t1, t2, t3⟩ := tD (k := k) (by omega)
  rw [t0, t1, t2, t3] at CO
  have k8 : (k == 8) = false := beq_eq_false_iff_ne.2 (by omega)
  have hmo : mostN k = 24 := by unfold mostN; rw [if_neg (by omega)]
  rw [hmo] at h
  clear t0 t1 t2 t3 hmo
  by_cases hx : 0 ≤ n ∧ n ≤ 24
  case neg =>
    rw [if_pos (by omega)] at h
    subst h
    have C1 := Lib.hid (fun w => wwithin_at (decide_eq_false hx) w)
    clear hx hk
    have HC := Lib.hid (MC.new w k ex va vb s n 29)
    have HB : Below w.heap.size w (w.alloc (.cells #[.int .i64 k, .int .i64 ex, .int .i64 va, .int .i64 vb, .int .i64 s.k, .int .i64 s.a, .int .i64 s.b, .string s.d, .int .i64 s.x.p, .int .i64 s.x.q, .string s.x.d, .int .i64 s.y.p, .int .i64 s.y.q, .string s.y.d, .int .i64 n] 29)) := (Below.refl _ _).alloc (Nat.le_refl _) _
    obtain ⟨c0, c1, c2, c3, c4, c5, c6, c7, c8, c9, c10, c11, c12, c13, c14⟩ := id HC.out
    go_enter Try.func11, Try.ntmps11
    go_wp2_with fail
    clear c0 c1 c2 c3 c4 c5 c6 c7 c8 c9 c10 c11 c12 c13 c14
    generalize w.alloc (.cells #[.int .i64 k, .int .i64 ex, .int .i64 va, .int .i64 vb, .int .i64 s.k, .int .i64 s.a, .int .i64 s.b, .string s.d, .int .i64 s.x.p, .int .i64 s.x.q, .string s.x.d, .int .i64 s.y.p, .int .i64 s.y.q, .string s.y.d, .int .i64 n] 29) = W1 at *
    refine (CO.out _).mono ?_
    rintro e' W2 ⟨rfl, hA⟩
    replace HC := Lib.hid (HC.out.below hA)
    replace HB := bt HB hA
    clear hA CO
    obtain ⟨e0, e1, e2, e3⟩ := held4b (w := W2) (a := false) (b := false) (c := false) (d := true) 52
    have hA := (Below.refl W2.heap.size W2).alloc (Nat.le_refl _) (.cells #[.bool false, .bool false, .bool false, .bool true] 52)
    replace HC := Lib.hid (HC.out.below hA)
    replace HB := bt HB hA
    clear hA
    obtain ⟨c0, c1, c2, c3, c4, c5, c6, c7, c8, c9, c10, c11, c12, c13, c14⟩ := id HC.out
    clear HC
    go_wp2_with (first | (go_at_call 29; (with_reducible refine (C1.out _).mono ?_); clear C1; rintro e' w5 ⟨rfl, rfl⟩))
    go_ret
    exact ⟨rfl, HB⟩
  have C1 := Lib.hid (fun w => wwithin_at (decide_eq_true hx) w)
  rw [if_neg (by omega)] at h
  clear hx hk
  have C3 := Lib.hid (fun w => spare_D k ex va vb s n w)
  by_cases hz : ex = 0 ∧ va = 0 ∧ vb = 0 ∧ szB s = true
  case pos =>
    rw [if_pos hz] at h
    subst h
    have hq := fun W => mne_y ex va vb s 0 (⟨hz.1, hz.2.1, hz.2.2.1, hz.2.2.2, rfl⟩) W
    clear hz
    have HC := Lib.hid (MC.new w k ex va vb s n 29)
    have HB : Below w.heap.size w (w.alloc (.cells #[.int .i64 k, .int .i64 ex, .int .i64 va, .int .i64 vb, .int .i64 s.k, .int .i64 s.a, .int .i64 s.b, .string s.d, .int .i64 s.x.p, .int .i64 s.x.q, .string s.x.d, .int .i64 s.y.p, .int .i64 s.y.q, .string s.y.d, .int .i64 n] 29)) := (Below.refl _ _).alloc (Nat.le_refl _) _
    obtain ⟨c0, c1, c2, c3, c4, c5, c6, c7, c8, c9, c10, c11, c12, c13, c14⟩ := id HC.out
    go_enter Try.func11, Try.ntmps11
    go_wp2_with fail
    clear c0 c1 c2 c3 c4 c5 c6 c7 c8 c9 c10 c11 c12 c13 c14
    generalize w.alloc (.cells #[.int .i64 k, .int .i64 ex, .int .i64 va, .int .i64 vb, .int .i64 s.k, .int .i64 s.a, .int .i64 s.b, .string s.d, .int .i64 s.x.p, .int .i64 s.x.q, .string s.x.d, .int .i64 s.y.p, .int .i64 s.y.q, .string s.y.d, .int .i64 n] 29) = W1 at *
    refine (CO.out _).mono ?_
    rintro e' W2 ⟨rfl, hA⟩
    replace HC := Lib.hid (HC.out.below hA)
    replace HB := bt HB hA
    clear hA CO
    obtain ⟨e0, e1, e2, e3⟩ := held4b (w := W2) (a := false) (b := false) (c := false) (d := true) 52
    have hA := (Below.refl W2.heap.size W2).alloc (Nat.le_refl _) (.cells #[.bool false, .bool false, .bool false, .bool true] 52)
    replace HC := Lib.hid (HC.out.below hA)
    replace HB := bt HB hA
    clear hA
    obtain ⟨c0, c1, c2, c3, c4, c5, c6, c7, c8, c9, c10, c11, c12, c13, c14⟩ := id HC.out
    clear HC
    go_wp2_with (first | (go_at_call 29; (with_reducible refine (C1.out _).mono ?_); clear C1; rintro e' w5 ⟨rfl, rfl⟩) | (go_at_call 32; (with_reducible refine (C3.out _).mono ?_); clear C3; rintro e' w5 ⟨rfl, hA⟩; replace c0 := bkeep hA c0; replace c1 := bkeep hA c1; replace c2 := bkeep hA c2; replace c3 := bkeep hA c3; replace c4 := bkeep hA c4; replace c5 := bkeep hA c5; replace c6 := bkeep hA c6; replace c7 := bkeep hA c7; replace c8 := bkeep hA c8; replace c9 := bkeep hA c9; replace c10 := bkeep hA c10; replace c11 := bkeep hA c11; replace c12 := bkeep hA c12; replace c13 := bkeep hA c13; replace c14 := bkeep hA c14; replace e0 := bkeep hA e0; replace e1 := bkeep hA e1; replace e2 := bkeep hA e2; replace e3 := bkeep hA e3; replace HB := bt HB hA; clear hA))
    go_ret
    exact ⟨rfl, HB⟩
  case neg =>
    rw [if_neg hz] at h
    subst h
    have hq := fun W => mne_n ex va vb s 0 (fun g => hz ⟨g.1, g.2.1, g.2.2.1, g.2.2.2.1⟩) W
    clear hz
    have HC := Lib.hid (MC.new w k ex va vb s n 29)
    have HB : Below w.heap.size w (w.alloc (.cells #[.int .i64 k, .int .i64 ex, .int .i64 va, .int .i64 vb, .int .i64 s.k, .int .i64 s.a, .int .i64 s.b, .string s.d, .int .i64 s.x.p, .int .i64 s.x.q, .string s.x.d, .int .i64 s.y.p, .int .i64 s.y.q, .string s.y.d, .int .i64 n] 29)) := (Below.refl _ _).alloc (Nat.le_refl _) _
    obtain ⟨c0, c1, c2, c3, c4, c5, c6, c7, c8, c9, c10, c11, c12, c13, c14⟩ := id HC.out
    go_enter Try.func11, Try.ntmps11
    go_wp2_with fail
    clear c0 c1 c2 c3 c4 c5 c6 c7 c8 c9 c10 c11 c12 c13 c14
    generalize w.alloc (.cells #[.int .i64 k, .int .i64 ex, .int .i64 va, .int .i64 vb, .int .i64 s.k, .int .i64 s.a, .int .i64 s.b, .string s.d, .int .i64 s.x.p, .int .i64 s.x.q, .string s.x.d, .int .i64 s.y.p, .int .i64 s.y.q, .string s.y.d, .int .i64 n] 29) = W1 at *
    refine (CO.out _).mono ?_
    rintro e' W2 ⟨rfl, hA⟩
    replace HC := Lib.hid (HC.out.below hA)
    replace HB := bt HB hA
    clear hA CO
    obtain ⟨e0, e1, e2, e3⟩ := held4b (w := W2) (a := false) (b := false) (c := false) (d := true) 52
    have hA := (Below.refl W2.heap.size W2).alloc (Nat.le_refl _) (.cells #[.bool false, .bool false, .bool false, .bool true] 52)
    replace HC := Lib.hid (HC.out.below hA)
    replace HB := bt HB hA
    clear hA
    obtain ⟨c0, c1, c2, c3, c4, c5, c6, c7, c8, c9, c10, c11, c12, c13, c14⟩ := id HC.out
    clear HC
    go_wp2_with (first | (go_at_call 29; (with_reducible refine (C1.out _).mono ?_); clear C1; rintro e' w5 ⟨rfl, rfl⟩) | (go_at_call 32; (with_reducible refine (C3.out _).mono ?_); clear C3; rintro e' w5 ⟨rfl, hA⟩; replace c0 := bkeep hA c0; replace c1 := bkeep hA c1; replace c2 := bkeep hA c2; replace c3 := bkeep hA c3; replace c4 := bkeep hA c4; replace c5 := bkeep hA c5; replace c6 := bkeep hA c6; replace c7 := bkeep hA c7; replace c8 := bkeep hA c8; replace c9 := bkeep hA c9; replace c10 := bkeep hA c10; replace c11 := bkeep hA c11; replace c12 := bkeep hA c12; replace c13 := bkeep hA c13; replace c14 := bkeep hA c14; replace e0 := bkeep hA e0; replace e1 := bkeep hA e1; replace e2 := bkeep hA e2; replace e3 := bkeep hA e3; replace HB := bt HB hA; clear hA))
    go_ret
    exact ⟨rfl, HB⟩
set_option maxRecDepth 20000 in
set_option maxHeartbeats 6400000 in
theorem wchk_D8 {k ex va vb : Int} {s : St} {n E : Int} (hk : k = 8) (h : mchk ⟨k, ex, va, vb, s, n⟩ = E) (w : World) : Calls Try.prog 11 #[MV k ex va vb s n] w fun e' w' => e' = .returned (.int .i64 E) ∧ Below w.heap.size w w' := by
  rw [mchk_D (m := ⟨k, ex, va, vb, s, n⟩) (by simp only; omega)] at h
  simp only at h
  have CO := Lib.hid (fun w => of_ok k w (by omega))
  obtain ⟨t0, t1, t2, t3⟩ := tD (k := k) (by omega)
  rw [t0, t1, t2, t3] at CO
  have k8 : (k == 8) = true := beq_iff_eq.2 (by omega)
  have hmo : mostN k = 1 := by unfold mostN; rw [if_pos (by omega)]
  rw [hmo] at h
  clear t0 t1 t2 t3 hmo
  by_cases hx : 0 ≤ n ∧ n ≤ 1
  case neg =>
    rw [if_pos (by omega)] at h
    subst h
    have C1 := Lib.hid (fun w => wwithin_at (decide_eq_false hx) w)
    clear hx hk
    have HC := Lib.hid (MC.new w k ex va vb s n 29)
    have HB : Below w.heap.size w (w.alloc (.cells #[.int .i64 k, .int .i64 ex, .int .i64 va, .int .i64 vb, .int .i64 s.k, .int .i64 s.a, .int .i64 s.b, .string s.d, .int .i64 s.x.p, .int .i64 s.x.q, .string s.x.d, .int .i64 s.y.p, .int .i64 s.y.q, .string s.y.d, .int .i64 n] 29)) := (Below.refl _ _).alloc (Nat.le_refl _) _
    obtain ⟨c0, c1, c2, c3, c4, c5, c6, c7, c8, c9, c10, c11, c12, c13, c14⟩ := id HC.out
    go_enter Try.func11, Try.ntmps11
    go_wp2_with fail
    clear c0 c1 c2 c3 c4 c5 c6 c7 c8 c9 c10 c11 c12 c13 c14
    generalize w.alloc (.cells #[.int .i64 k, .int .i64 ex, .int .i64 va, .int .i64 vb, .int .i64 s.k, .int .i64 s.a, .int .i64 s.b, .string s.d, .int .i64 s.x.p, .int .i64 s.x.q, .string s.x.d, .int .i64 s.y.p, .int .i64 s.y.q, .string s.y.d, .int .i64 n] 29) = W1 at *
    refine (CO.out _).mono ?_
    rintro e' W2 ⟨rfl, hA⟩
    replace HC := Lib.hid (HC.out.below hA)
    replace HB := bt HB hA
    clear hA CO
    obtain ⟨e0, e1, e2, e3⟩ := held4b (w := W2) (a := false) (b := false) (c := false) (d := true) 52
    have hA := (Below.refl W2.heap.size W2).alloc (Nat.le_refl _) (.cells #[.bool false, .bool false, .bool false, .bool true] 52)
    replace HC := Lib.hid (HC.out.below hA)
    replace HB := bt HB hA
    clear hA
    obtain ⟨c0, c1, c2, c3, c4, c5, c6, c7, c8, c9, c10, c11, c12, c13, c14⟩ := id HC.out
    clear HC
    go_wp2_with (first | (go_at_call 29; (with_reducible refine (C1.out _).mono ?_); clear C1; rintro e' w5 ⟨rfl, rfl⟩))
    go_ret
    exact ⟨rfl, HB⟩
  have C1 := Lib.hid (fun w => wwithin_at (decide_eq_true hx) w)
  rw [if_neg (by omega)] at h
  clear hx hk
  have C3 := Lib.hid (fun w => spare_D k ex va vb s n w)
  by_cases hz : ex = 0 ∧ va = 0 ∧ vb = 0 ∧ szB s = true
  case pos =>
    rw [if_pos hz] at h
    subst h
    have hq := fun W => mne_y ex va vb s 0 (⟨hz.1, hz.2.1, hz.2.2.1, hz.2.2.2, rfl⟩) W
    clear hz
    have HC := Lib.hid (MC.new w k ex va vb s n 29)
    have HB : Below w.heap.size w (w.alloc (.cells #[.int .i64 k, .int .i64 ex, .int .i64 va, .int .i64 vb, .int .i64 s.k, .int .i64 s.a, .int .i64 s.b, .string s.d, .int .i64 s.x.p, .int .i64 s.x.q, .string s.x.d, .int .i64 s.y.p, .int .i64 s.y.q, .string s.y.d, .int .i64 n] 29)) := (Below.refl _ _).alloc (Nat.le_refl _) _
    obtain ⟨c0, c1, c2, c3, c4, c5, c6, c7, c8, c9, c10, c11, c12, c13, c14⟩ := id HC.out
    go_enter Try.func11, Try.ntmps11
    go_wp2_with fail
    clear c0 c1 c2 c3 c4 c5 c6 c7 c8 c9 c10 c11 c12 c13 c14
    generalize w.alloc (.cells #[.int .i64 k, .int .i64 ex, .int .i64 va, .int .i64 vb, .int .i64 s.k, .int .i64 s.a, .int .i64 s.b, .string s.d, .int .i64 s.x.p, .int .i64 s.x.q, .string s.x.d, .int .i64 s.y.p, .int .i64 s.y.q, .string s.y.d, .int .i64 n] 29) = W1 at *
    refine (CO.out _).mono ?_
    rintro e' W2 ⟨rfl, hA⟩
    replace HC := Lib.hid (HC.out.below hA)
    replace HB := bt HB hA
    clear hA CO
    obtain ⟨e0, e1, e2, e3⟩ := held4b (w := W2) (a := false) (b := false) (c := false) (d := true) 52
    have hA := (Below.refl W2.heap.size W2).alloc (Nat.le_refl _) (.cells #[.bool false, .bool false, .bool false, .bool true] 52)
    replace HC := Lib.hid (HC.out.below hA)
    replace HB := bt HB hA
    clear hA
    obtain ⟨c0, c1, c2, c3, c4, c5, c6, c7, c8, c9, c10, c11, c12, c13, c14⟩ := id HC.out
    clear HC
    go_wp2_with (first | (go_at_call 29; (with_reducible refine (C1.out _).mono ?_); clear C1; rintro e' w5 ⟨rfl, rfl⟩) | (go_at_call 32; (with_reducible refine (C3.out _).mono ?_); clear C3; rintro e' w5 ⟨rfl, hA⟩; replace c0 := bkeep hA c0; replace c1 := bkeep hA c1; replace c2 := bkeep hA c2; replace c3 := bkeep hA c3; replace c4 := bkeep hA c4; replace c5 := bkeep hA c5; replace c6 := bkeep hA c6; replace c7 := bkeep hA c7; replace c8 := bkeep hA c8; replace c9 := bkeep hA c9; replace c10 := bkeep hA c10; replace c11 := bkeep hA c11; replace c12 := bkeep hA c12; replace c13 := bkeep hA c13; replace c14 := bkeep hA c14; replace e0 := bkeep hA e0; replace e1 := bkeep hA e1; replace e2 := bkeep hA e2; replace e3 := bkeep hA e3; replace HB := bt HB hA; clear hA))
    go_ret
    exact ⟨rfl, HB⟩
  case neg =>
    rw [if_neg hz] at h
    subst h
    have hq := fun W => mne_n ex va vb s 0 (fun g => hz ⟨g.1, g.2.1, g.2.2.1, g.2.2.2.1⟩) W
    clear hz
    have HC := Lib.hid (MC.new w k ex va vb s n 29)
    have HB : Below w.heap.size w (w.alloc (.cells #[.int .i64 k, .int .i64 ex, .int .i64 va, .int .i64 vb, .int .i64 s.k, .int .i64 s.a, .int .i64 s.b, .string s.d, .int .i64 s.x.p, .int .i64 s.x.q, .string s.x.d, .int .i64 s.y.p, .int .i64 s.y.q, .string s.y.d, .int .i64 n] 29)) := (Below.refl _ _).alloc (Nat.le_refl _) _
    obtain ⟨c0, c1, c2, c3, c4, c5, c6, c7, c8, c9, c10, c11, c12, c13, c14⟩ := id HC.out
    go_enter Try.func11, Try.ntmps11
    go_wp2_with fail
    clear c0 c1 c2 c3 c4 c5 c6 c7 c8 c9 c10 c11 c12 c13 c14
    generalize w.alloc (.cells #[.int .i64 k, .int .i64 ex, .int .i64 va, .int .i64 vb, .int .i64 s.k, .int .i64 s.a, .int .i64 s.b, .string s.d, .int .i64 s.x.p, .int .i64 s.x.q, .string s.x.d, .int .i64 s.y.p, .int .i64 s.y.q, .string s.y.d, .int .i64 n] 29) = W1 at *
    refine (CO.out _).mono ?_
    rintro e' W2 ⟨rfl, hA⟩
    replace HC := Lib.hid (HC.out.below hA)
    replace HB := bt HB hA
    clear hA CO
    obtain ⟨e0, e1, e2, e3⟩ := held4b (w := W2) (a := false) (b := false) (c := false) (d := true) 52
    have hA := (Below.refl W2.heap.size W2).alloc (Nat.le_refl _) (.cells #[.bool false, .bool false, .bool false, .bool true] 52)
    replace HC := Lib.hid (HC.out.below hA)
    replace HB := bt HB hA
    clear hA
    obtain ⟨c0, c1, c2, c3, c4, c5, c6, c7, c8, c9, c10, c11, c12, c13, c14⟩ := id HC.out
    clear HC
    go_wp2_with (first | (go_at_call 29; (with_reducible refine (C1.out _).mono ?_); clear C1; rintro e' w5 ⟨rfl, rfl⟩) | (go_at_call 32; (with_reducible refine (C3.out _).mono ?_); clear C3; rintro e' w5 ⟨rfl, hA⟩; replace c0 := bkeep hA c0; replace c1 := bkeep hA c1; replace c2 := bkeep hA c2; replace c3 := bkeep hA c3; replace c4 := bkeep hA c4; replace c5 := bkeep hA c5; replace c6 := bkeep hA c6; replace c7 := bkeep hA c7; replace c8 := bkeep hA c8; replace c9 := bkeep hA c9; replace c10 := bkeep hA c10; replace c11 := bkeep hA c11; replace c12 := bkeep hA c12; replace c13 := bkeep hA c13; replace c14 := bkeep hA c14; replace e0 := bkeep hA e0; replace e1 := bkeep hA e1; replace e2 := bkeep hA e2; replace e3 := bkeep hA e3; replace HB := bt HB hA; clear hA))
    go_ret
    exact ⟨rfl, HB⟩
theorem wchk_at {k ex va vb : Int} {s : St} {n E : Int} (h : mchk ⟨k, ex, va, vb, s, n⟩ = E) (w : World) : Calls Try.prog 11 #[MV k ex va vb s n] w fun e' w' => e' = .returned (.int .i64 E) ∧ Below w.heap.size w w' := by
  rcases kinds k with g | g | g | g | g | g
  · rw [mchk_x (m := ⟨k, ex, va, vb, s, n⟩) g] at h; subst h; exact wchk_x g w
  · exact wchk_A g h w
  · exact wchk_B g h w
  · exact wchk_C g h w
  · exact wchk_D7 g h w
  · exact wchk_D8 g h w
end Go.Proofs.Ytemfdmbjlmiopaa
