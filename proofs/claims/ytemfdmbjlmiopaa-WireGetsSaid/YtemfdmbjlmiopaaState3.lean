/-
  Package state (chapter 23): a side, what comes of two.
-/
import Derived.Test.YtemfdmbjlmiopaaState2
namespace Go.Proofs.Ytemfdmbjlmiopaa
open Go.RowKit
set_option linter.unusedVariables false
set_option linter.unusedSimpArgs false
def sideS (s : St) (n : Int) : Ve := if s.k = 0 then ⟨s.a, s.b, s.d⟩ else if n = 0 then s.x else s.y
set_option maxHeartbeats 3200000 in
theorem sside_any (k a b : Int) (d : ByteArray) (p q : Int) (e : ByteArray) (r s : Int) (f : ByteArray) (n : Int) (w : World) : Calls Try.prog 66 #[SS k a b d p q e r s f, .int .i64 n] w fun e' w' => e' = .returned (VE a b d) ∧ Below w.heap.size w w' := by
  go_enter Try.func66, Try.ntmps66
  go_wp2
  exact bodyPost_ret (v := VE a b d) (by simp [results, Try.results66, go_sem]) rfl ⟨rfl, by repeat (first | exact Below.refl _ _ | refine Below.setCell ?_ (by simp) _ | refine Below.alloc ?_ (by simp) _)⟩
set_option maxHeartbeats 3200000 in
theorem dside_any (k a b : Int) (d : ByteArray) (p q : Int) (e : ByteArray) (r s : Int) (f : ByteArray) (n : Int) (w : World) : Calls Try.prog 67 #[SS k a b d p q e r s f, .int .i64 n] w fun e' w' => e' = .returned (if n = 0 then VE p q e else VE r s f) ∧ Below w.heap.size w w' := by
  by_cases h1 : n = 0
  · rw [if_pos h1]
    have hn : (n == 0) = true := beq_iff_eq.2 h1
    clear h1
    go_enter Try.func67, Try.ntmps67
    go_wp2
    exact bodyPost_ret (v := VE p q e) (by simp [results, Try.results67, go_sem]) rfl ⟨rfl, by repeat (first | exact Below.refl _ _ | refine Below.setCell ?_ (by simp) _ | refine Below.alloc ?_ (by simp) _)⟩
  · rw [if_neg h1]
    have hn : (n == 0) = false := beq_eq_false_iff_ne.2 h1
    clear h1
    go_enter Try.func67, Try.ntmps67
    go_wp2
    exact bodyPost_ret (v := VE r s f) (by simp [results, Try.results67, go_sem]) rfl ⟨rfl, by repeat (first | exact Below.refl _ _ | refine Below.setCell ?_ (by simp) _ | refine Below.alloc ?_ (by simp) _)⟩
abbrev Z10 : Value := SS 0 0 0 ByteArray.empty 0 0 ByteArray.empty 0 0 ByteArray.empty
set_option maxRecDepth 20000 in
theorem ta_ss (v : Array Value) (W : World) : (Instr.typeAssert (.iface 102 (.agg v)) 87 102 true).run Try.prog W = .ok (.tuple #[.agg v, .bool true]) W := by rfl
set_option maxRecDepth 20000 in
theorem ta_sd (v : Array Value) (W : World) : (Instr.typeAssert (.iface 102 (.agg v)) 87 104 true).run Try.prog W = .ok (.tuple #[Z10, .bool false]) W := by rfl
set_option maxRecDepth 20000 in
theorem ta_dd (v : Array Value) (W : World) : (Instr.typeAssert (.iface 104 (.agg v)) 87 104 true).run Try.prog W = .ok (.tuple #[.agg v, .bool true]) W := by rfl
set_option maxRecDepth 20000 in
theorem ta_ds (v : Array Value) (W : World) : (Instr.typeAssert (.iface 104 (.agg v)) 87 102 true).run Try.prog W = .ok (.tuple #[Z10, .bool false]) W := by rfl
set_option maxRecDepth 20000 in
theorem ta_ns (W : World) : (Instr.typeAssert .nilIface 87 102 true).run Try.prog W = .ok (.tuple #[Z10, .bool false]) W := by rfl
set_option maxRecDepth 20000 in
theorem ta_nd (W : World) : (Instr.typeAssert .nilIface 87 104 true).run Try.prog W = .ok (.tuple #[Z10, .bool false]) W := by rfl
theorem free3 {w : World} {p q : Int} {e : ByteArray} (T : TypeId) : let W := w.alloc (.cells #[.int .i64 p, .int .i64 q, .string e] T)
    W.frozen? ⟨w.heap.size, 0, none⟩ = false ∧ W.frozen? ⟨w.heap.size, 1, none⟩ = false ∧ W.frozen? ⟨w.heap.size, 2, none⟩ = false := by
  intro W
  refine ⟨?_, ?_, ?_⟩ <;> simp [W, go_sem]
set_option maxHeartbeats 6400000 in
theorem stSide_any (k a b : Int) (d : ByteArray) (p q : Int) (e : ByteArray) (r s : Int) (f : ByteArray) (n : Int) (w : World) : Calls Try.prog 51 #[SS k a b d p q e r s f, .int .i64 n] w fun e' w' => e' = .returned (sideS ⟨k, a, b, d, ⟨p, q, e⟩, ⟨r, s, f⟩⟩ n).v ∧ Below w.heap.size w w' := by
  by_cases h0 : k = 0
  · have HF : Hid (sideS ⟨k, a, b, d, ⟨p, q, e⟩, ⟨r, s, f⟩⟩ n = ⟨a, b, d⟩) := if_pos h0
    have O := Lib.hid (fun w => of_any k a b d p q e r s f w)
    rw [if_pos h0] at O
    clear h0
    obtain ⟨c0, c1, c2, c3, c4, c5, c6, c7, c8, c9⟩ := held10 (w := w) (k := k) (a := a) (b := b) (d := d) (p := p) (q := q) (e := e) (r := r) (s := s) (f := f) 27
    have hA1 : Below w.heap.size w (w.alloc (.cells #[.int .i64 k, .int .i64 a, .int .i64 b, .string d, .int .i64 p, .int .i64 q, .string e, .int .i64 r, .int .i64 s, .string f] 27)) := (Below.refl _ _).alloc (Nat.le_refl _) _
    have hz1 : (w.alloc (.cells #[.int .i64 k, .int .i64 a, .int .i64 b, .string d, .int .i64 p, .int .i64 q, .string e, .int .i64 r, .int .i64 s, .string f] 27)).heap.size = w.heap.size + 1 := by simp
    go_enter Try.func51, Try.ntmps51
    go_wp2_with fail
    generalize w.alloc (.cells #[.int .i64 k, .int .i64 a, .int .i64 b, .string d, .int .i64 p, .int .i64 q, .string e, .int .i64 r, .int .i64 s, .string f] 27) = W1 at *
    obtain ⟨n0, n1, n2⟩ := held3 (w := W1) (p := 0) (q := 0) (e := ⟨#[]⟩) 25
    obtain ⟨m0, m1, m2⟩ := free3 (w := W1) (p := 0) (q := 0) (e := ⟨#[]⟩) 25
    rw [hz1] at n0 n1 n2 m0 m1 m2
    have hA2 : Below W1.heap.size W1 (W1.alloc (.cells #[.int .i64 0, .int .i64 0, .string ⟨#[]⟩] 25)) := (Below.refl _ _).alloc (Nat.le_refl _) _
    replace c0 := bkeep hA2 c0
    replace c1 := bkeep hA2 c1
    replace c2 := bkeep hA2 c2
    replace c3 := bkeep hA2 c3
    replace c4 := bkeep hA2 c4
    replace c5 := bkeep hA2 c5
    replace c6 := bkeep hA2 c6
    replace c7 := bkeep hA2 c7
    replace c8 := bkeep hA2 c8
    replace c9 := bkeep hA2 c9
    have HB := bt hA1 hA2
    clear hA1 hA2
    generalize W1.alloc (.cells #[.int .i64 0, .int .i64 0, .string ⟨#[]⟩] 25) = W2 at *
    have t1 := ta_ss
    have t2 := ta_sd
    have t3 := ta_dd
    have t4 := ta_ds
    have t5 := ta_ns
    have t6 := ta_nd
    refine (O.out _).mono ?_
    rintro e' w5 ⟨rfl, hb5⟩
    replace c0 := bkeep hb5 c0
    replace c1 := bkeep hb5 c1
    replace c2 := bkeep hb5 c2
    replace c3 := bkeep hb5 c3
    replace c4 := bkeep hb5 c4
    replace c5 := bkeep hb5 c5
    replace c6 := bkeep hb5 c6
    replace c7 := bkeep hb5 c7
    replace c8 := bkeep hb5 c8
    replace c9 := bkeep hb5 c9
    replace m0 := bfree hb5 n0 m0
    replace m1 := bfree hb5 n1 m1
    replace m2 := bfree hb5 n2 m2
    replace n0 := bkeep hb5 n0
    replace n1 := bkeep hb5 n1
    replace n2 := bkeep hb5 n2
    replace HB := bt HB hb5
    clear hb5
    go_wp2_with fail
    have hb4 := (Below.refl w5.heap.size w5).alloc (Nat.le_refl _) (.cells #[.int .i64 k, .int .i64 a, .int .i64 b, .string d, .int .i64 p, .int .i64 q, .string e, .int .i64 r, .int .i64 s, .string f] 102)
    replace c0 := bkeep hb4 c0
    replace c1 := bkeep hb4 c1
    replace c2 := bkeep hb4 c2
    replace c3 := bkeep hb4 c3
    replace c4 := bkeep hb4 c4
    replace c5 := bkeep hb4 c5
    replace c6 := bkeep hb4 c6
    replace c7 := bkeep hb4 c7
    replace c8 := bkeep hb4 c8
    replace c9 := bkeep hb4 c9
    replace m0 := bfree hb4 n0 m0
    replace m1 := bfree hb4 n1 m1
    replace m2 := bfree hb4 n2 m2
    replace n0 := bkeep hb4 n0
    replace n1 := bkeep hb4 n1
    replace n2 := bkeep hb4 n2
    replace HB := bt HB hb4
    clear hb4
    generalize w5.alloc (.cells #[.int .i64 k, .int .i64 a, .int .i64 b, .string d, .int .i64 p, .int .i64 q, .string e, .int .i64 r, .int .i64 s, .string f] 102) = w6 at *
    refine (sside_any _ _ _ _ _ _ _ _ _ _ _ _).mono ?_
    rintro e' w7 ⟨rfl, hb5⟩
    replace c0 := bkeep hb5 c0
    replace c1 := bkeep hb5 c1
    replace c2 := bkeep hb5 c2
    replace c3 := bkeep hb5 c3
    replace c4 := bkeep hb5 c4
    replace c5 := bkeep hb5 c5
    replace c6 := bkeep hb5 c6
    replace c7 := bkeep hb5 c7
    replace c8 := bkeep hb5 c8
    replace c9 := bkeep hb5 c9
    replace m0 := bfree hb5 n0 m0
    replace m1 := bfree hb5 n1 m1
    replace m2 := bfree hb5 n2 m2
    replace n0 := bkeep hb5 n0
    replace n1 := bkeep hb5 n1
    replace n2 := bkeep hb5 n2
    replace HB := bt HB hb5
    clear hb5
    go_wp2
    exact bodyPost_ret (v := VE a b d) (by simp [results, Try.results51, go_sem, n0, n1, n2]) rfl ⟨by rw [HF.out], by repeat (first | exact HB | refine Below.setCell ?_ (by simp) _ | refine Below.alloc ?_ (by simp) _)⟩
  have hsd : ∀ v : Value, (if n = 0 then VE p q e else VE r s f) = v → (sideS ⟨k, a, b, d, ⟨p, q, e⟩, ⟨r, s, f⟩⟩ n).v = v := by
    rintro v rfl
    unfold sideS; rw [if_neg h0]; split <;> rfl
  have HSD := Lib.hid hsd
  clear hsd
  by_cases h1 : k = 1
  · have O := Lib.hid (fun w => of_any k a b d p q e r s f w)
    rw [if_neg h0, if_pos h1] at O
    clear h0 h1
    obtain ⟨c0, c1, c2, c3, c4, c5, c6, c7, c8, c9⟩ := held10 (w := w) (k := k) (a := a) (b := b) (d := d) (p := p) (q := q) (e := e) (r := r) (s := s) (f := f) 27
    have hA1 : Below w.heap.size w (w.alloc (.cells #[.int .i64 k, .int .i64 a, .int .i64 b, .string d, .int .i64 p, .int .i64 q, .string e, .int .i64 r, .int .i64 s, .string f] 27)) := (Below.refl _ _).alloc (Nat.le_refl _) _
    have hz1 : (w.alloc (.cells #[.int .i64 k, .int .i64 a, .int .i64 b, .string d, .int .i64 p, .int .i64 q, .string e, .int .i64 r, .int .i64 s, .string f] 27)).heap.size = w.heap.size + 1 := by simp
    go_enter Try.func51, Try.ntmps51
    go_wp2_with fail
    generalize w.alloc (.cells #[.int .i64 k, .int .i64 a, .int .i64 b, .string d, .int .i64 p, .int .i64 q, .string e, .int .i64 r, .int .i64 s, .string f] 27) = W1 at *
    obtain ⟨n0, n1, n2⟩ := held3 (w := W1) (p := 0) (q := 0) (e := ⟨#[]⟩) 25
    obtain ⟨m0, m1, m2⟩ := free3 (w := W1) (p := 0) (q := 0) (e := ⟨#[]⟩) 25
    rw [hz1] at n0 n1 n2 m0 m1 m2
    have hA2 : Below W1.heap.size W1 (W1.alloc (.cells #[.int .i64 0, .int .i64 0, .string ⟨#[]⟩] 25)) := (Below.refl _ _).alloc (Nat.le_refl _) _
    replace c0 := bkeep hA2 c0
    replace c1 := bkeep hA2 c1
    replace c2 := bkeep hA2 c2
    replace c3 := bkeep hA2 c3
    replace c4 := bkeep hA2 c4
    replace c5 := bkeep hA2 c5
    replace c6 := bkeep hA2 c6
    replace c7 := bkeep hA2 c7
    replace c8 := bkeep hA2 c8
    replace c9 := bkeep hA2 c9
    have HB := bt hA1 hA2
    clear hA1 hA2
    generalize W1.alloc (.cells #[.int .i64 0, .int .i64 0, .string ⟨#[]⟩] 25) = W2 at *
    have t1 := ta_ss
    have t2 := ta_sd
    have t3 := ta_dd
    have t4 := ta_ds
    have t5 := ta_ns
    have t6 := ta_nd
    refine (O.out _).mono ?_
    rintro e' w5 ⟨rfl, hb5⟩
    replace c0 := bkeep hb5 c0
    replace c1 := bkeep hb5 c1
    replace c2 := bkeep hb5 c2
    replace c3 := bkeep hb5 c3
    replace c4 := bkeep hb5 c4
    replace c5 := bkeep hb5 c5
    replace c6 := bkeep hb5 c6
    replace c7 := bkeep hb5 c7
    replace c8 := bkeep hb5 c8
    replace c9 := bkeep hb5 c9
    replace m0 := bfree hb5 n0 m0
    replace m1 := bfree hb5 n1 m1
    replace m2 := bfree hb5 n2 m2
    replace n0 := bkeep hb5 n0
    replace n1 := bkeep hb5 n1
    replace n2 := bkeep hb5 n2
    replace HB := bt HB hb5
    clear hb5
    go_wp2_with fail
    have hb4 := (Below.refl w5.heap.size w5).alloc (Nat.le_refl _) (.cells #[.int .i64 k, .int .i64 a, .int .i64 b, .string d, .int .i64 p, .int .i64 q, .string e, .int .i64 r, .int .i64 s, .string f] 104)
    replace c0 := bkeep hb4 c0
    replace c1 := bkeep hb4 c1
    replace c2 := bkeep hb4 c2
    replace c3 := bkeep hb4 c3
    replace c4 := bkeep hb4 c4
    replace c5 := bkeep hb4 c5
    replace c6 := bkeep hb4 c6
    replace c7 := bkeep hb4 c7
    replace c8 := bkeep hb4 c8
    replace c9 := bkeep hb4 c9
    replace m0 := bfree hb4 n0 m0
    replace m1 := bfree hb4 n1 m1
    replace m2 := bfree hb4 n2 m2
    replace n0 := bkeep hb4 n0
    replace n1 := bkeep hb4 n1
    replace n2 := bkeep hb4 n2
    replace HB := bt HB hb4
    clear hb4
    generalize w5.alloc (.cells #[.int .i64 k, .int .i64 a, .int .i64 b, .string d, .int .i64 p, .int .i64 q, .string e, .int .i64 r, .int .i64 s, .string f] 104) = w6 at *
    refine (dside_any _ _ _ _ _ _ _ _ _ _ _ _).mono ?_
    rintro e' w7 ⟨rfl, hb5⟩
    replace c0 := bkeep hb5 c0
    replace c1 := bkeep hb5 c1
    replace c2 := bkeep hb5 c2
    replace c3 := bkeep hb5 c3
    replace c4 := bkeep hb5 c4
    replace c5 := bkeep hb5 c5
    replace c6 := bkeep hb5 c6
    replace c7 := bkeep hb5 c7
    replace c8 := bkeep hb5 c8
    replace c9 := bkeep hb5 c9
    replace m0 := bfree hb5 n0 m0
    replace m1 := bfree hb5 n1 m1
    replace m2 := bfree hb5 n2 m2
    replace n0 := bkeep hb5 n0
    replace n1 := bkeep hb5 n1
    replace n2 := bkeep hb5 n2
    replace HB := bt HB hb5
    clear hb5
    by_cases hn : n = 0
    · rw [if_pos hn]
      have HN := Lib.hid hn
      clear hn
      go_wp2
      exact bodyPost_ret (v := VE p q e) (by simp [results, Try.results51, go_sem, n0, n1, n2]) rfl ⟨by rw [HSD.out _ (if_pos HN.out)], by repeat (first | exact HB | refine Below.setCell ?_ (by simp) _ | refine Below.alloc ?_ (by simp) _)⟩
    · rw [if_neg hn]
      have HN := Lib.hid hn
      clear hn
      go_wp2
      exact bodyPost_ret (v := VE r s f) (by simp [results, Try.results51, go_sem, n0, n1, n2]) rfl ⟨by rw [HSD.out _ (if_neg HN.out)], by repeat (first | exact HB | refine Below.setCell ?_ (by simp) _ | refine Below.alloc ?_ (by simp) _)⟩
  · have O := Lib.hid (fun w => of_any k a b d p q e r s f w)
    rw [if_neg h0, if_neg h1] at O
    clear h0 h1
    obtain ⟨c0, c1, c2, c3, c4, c5, c6, c7, c8, c9⟩ := held10 (w := w) (k := k) (a := a) (b := b) (d := d) (p := p) (q := q) (e := e) (r := r) (s := s) (f := f) 27
    have hA1 : Below w.heap.size w (w.alloc (.cells #[.int .i64 k, .int .i64 a, .int .i64 b, .string d, .int .i64 p, .int .i64 q, .string e, .int .i64 r, .int .i64 s, .string f] 27)) := (Below.refl _ _).alloc (Nat.le_refl _) _
    have hz1 : (w.alloc (.cells #[.int .i64 k, .int .i64 a, .int .i64 b, .string d, .int .i64 p, .int .i64 q, .string e, .int .i64 r, .int .i64 s, .string f] 27)).heap.size = w.heap.size + 1 := by simp
    go_enter Try.func51, Try.ntmps51
    go_wp2_with fail
    generalize w.alloc (.cells #[.int .i64 k, .int .i64 a, .int .i64 b, .string d, .int .i64 p, .int .i64 q, .string e, .int .i64 r, .int .i64 s, .string f] 27) = W1 at *
    obtain ⟨n0, n1, n2⟩ := held3 (w := W1) (p := 0) (q := 0) (e := ⟨#[]⟩) 25
    obtain ⟨m0, m1, m2⟩ := free3 (w := W1) (p := 0) (q := 0) (e := ⟨#[]⟩) 25
    rw [hz1] at n0 n1 n2 m0 m1 m2
    have hA2 : Below W1.heap.size W1 (W1.alloc (.cells #[.int .i64 0, .int .i64 0, .string ⟨#[]⟩] 25)) := (Below.refl _ _).alloc (Nat.le_refl _) _
    replace c0 := bkeep hA2 c0
    replace c1 := bkeep hA2 c1
    replace c2 := bkeep hA2 c2
    replace c3 := bkeep hA2 c3
    replace c4 := bkeep hA2 c4
    replace c5 := bkeep hA2 c5
    replace c6 := bkeep hA2 c6
    replace c7 := bkeep hA2 c7
    replace c8 := bkeep hA2 c8
    replace c9 := bkeep hA2 c9
    have HB := bt hA1 hA2
    clear hA1 hA2
    generalize W1.alloc (.cells #[.int .i64 0, .int .i64 0, .string ⟨#[]⟩] 25) = W2 at *
    have t1 := ta_ss
    have t2 := ta_sd
    have t3 := ta_dd
    have t4 := ta_ds
    have t5 := ta_ns
    have t6 := ta_nd
    refine (O.out _).mono ?_
    rintro e' w5 ⟨rfl, hb5⟩
    replace c0 := bkeep hb5 c0
    replace c1 := bkeep hb5 c1
    replace c2 := bkeep hb5 c2
    replace c3 := bkeep hb5 c3
    replace c4 := bkeep hb5 c4
    replace c5 := bkeep hb5 c5
    replace c6 := bkeep hb5 c6
    replace c7 := bkeep hb5 c7
    replace c8 := bkeep hb5 c8
    replace c9 := bkeep hb5 c9
    replace m0 := bfree hb5 n0 m0
    replace m1 := bfree hb5 n1 m1
    replace m2 := bfree hb5 n2 m2
    replace n0 := bkeep hb5 n0
    replace n1 := bkeep hb5 n1
    replace n2 := bkeep hb5 n2
    replace HB := bt HB hb5
    clear hb5
    go_wp2_with fail
    refine (dside_any _ _ _ _ _ _ _ _ _ _ _ _).mono ?_
    rintro e' w7 ⟨rfl, hb5⟩
    replace c0 := bkeep hb5 c0
    replace c1 := bkeep hb5 c1
    replace c2 := bkeep hb5 c2
    replace c3 := bkeep hb5 c3
    replace c4 := bkeep hb5 c4
    replace c5 := bkeep hb5 c5
    replace c6 := bkeep hb5 c6
    replace c7 := bkeep hb5 c7
    replace c8 := bkeep hb5 c8
    replace c9 := bkeep hb5 c9
    replace m0 := bfree hb5 n0 m0
    replace m1 := bfree hb5 n1 m1
    replace m2 := bfree hb5 n2 m2
    replace n0 := bkeep hb5 n0
    replace n1 := bkeep hb5 n1
    replace n2 := bkeep hb5 n2
    replace HB := bt HB hb5
    clear hb5
    by_cases hn : n = 0
    · rw [if_pos hn]
      have HN := Lib.hid hn
      clear hn
      go_wp2
      exact bodyPost_ret (v := VE p q e) (by simp [results, Try.results51, go_sem, n0, n1, n2]) rfl ⟨by rw [HSD.out _ (if_pos HN.out)], by repeat (first | exact HB | refine Below.setCell ?_ (by simp) _ | refine Below.alloc ?_ (by simp) _)⟩
    · rw [if_neg hn]
      have HN := Lib.hid hn
      clear hn
      go_wp2
      exact bodyPost_ret (v := VE r s f) (by simp [results, Try.results51, go_sem, n0, n1, n2]) rfl ⟨by rw [HSD.out _ (if_neg HN.out)], by repeat (first | exact HB | refine Below.setCell ?_ (by simp) _ | refine Below.alloc ?_ (by simp) _)⟩
end Go.Proofs.Ytemfdmbjlmiopaa
