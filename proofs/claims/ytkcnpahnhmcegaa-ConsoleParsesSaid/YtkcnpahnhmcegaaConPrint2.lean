/-
  Commands (chapter 33): printed, both sides.
-/
import Derived.Test.YtkcnpahnhmcegaaConPrint
namespace Go.Proofs.Ytkcnpahnhmcegaa
open Go.RowKit
set_option linter.unusedVariables false
set_option linter.unusedSimpArgs false

theorem name_size {k : Int} (h : inK k = true) : (nameK k).size ≤ 7 := by
  rcases inK_cases h with h | h | h | h | h | h | h | h | h | h <;> rw [h] <;> decide
theorem print_any33 (c : Cmd) (w : World) : Calls Try.prog 7 #[cmdV c] w fun e w' => e = .returned (.tuple #[.string (prnS c), .int .i64 (chkC c)]) ∧ Below w.heap.size w w' := by
  have hC := fun w => check_any33 c w
  unfold prnS
  by_cases h0 : chkC c = 0
  · rw [if_pos h0, h0, lin_eq]
    rw [h0] at hC
    obtain ⟨h1, h2, h3, h4, _⟩ := chk_ok h0
    have hO := fun w => of_any c.k w
    rw [h1] at hO
    exact print33 _ _ _ _ c.k c.e c.sd c.d w (kind_combo h1) h2 h3 h4 (name_size h1) hC hO
  · rw [if_neg h0]
    generalize chkC c = n at *
    obtain ⟨k, e, sd, d⟩ := c
    unfold cmdV at *
    simp only at *
    obtain ⟨W0, hW0⟩ : ∃ W0, w.alloc (.cells #[.int .i64 k, .int .i64 e, .int .i64 sd, .string d] 23) = W0 := ⟨_, rfl⟩
    obtain ⟨c0, c1, c2, c3⟩ := hW0 ▸ HCmd.new w 23 k e sd d
    have hb0 : Below w.heap.size w W0 := hW0 ▸ alb w _
    have hd : (n == 0) = false := by rw [beq_eq_false_iff_ne]; exact h0
    have hC := Lib.hid hC
    go_enter Try.func7, Try.ntmps7
    go_wp2_with (go_at_call 9; (with_reducible refine (hC.out _).mono ?_); rintro e1 w1 ⟨rfl, hb1⟩)
    go_ret2
    exact ⟨rfl, bt hb0 hb1⟩
set_option maxHeartbeats 6400000 in
theorem rprint33 (nm : ByteArray) (a b d0 : Bool) (k e sd : Int) (d : ByteArray) (w : World) (hcombo : (a = false ∧ b = false ∧ d0 = false) ∨ (a = true ∧ b = false ∧ d0 = false) ∨ (a = true ∧ b = true ∧ d0 = false) ∨ (a = true ∧ b = false ∧ d0 = true))
    (he : a = true → 0 ≤ e ∧ e ≤ 23) (hsd : b = true → 0 ≤ sd ∧ sd ≤ 1) (hd : d.size ≤ 200) (hn : nm.size ≤ 7)
    (hC : ∀ w, Calls Try.prog 10 #[.agg #[.int .i64 k, .int .i64 e, .int .i64 sd, .string d]] w fun e w' => e = .returned (.int .i64 0) ∧ Below w.heap.size w w')
    (hO : ∀ w, Calls Try.prog 21 #[.int .i64 k] w fun e w' => e = .returned (.string nm) ∧ Below w.heap.size w w')
    (hH : ∀ w, Calls Try.prog 20 #[.int .i64 k] w fun e w' => e = .returned (.agg #[.bool a, .bool b, .bool d0]) ∧ Below w.heap.size w w') :
    Calls Try.prog 8 #[.agg #[.int .i64 k, .int .i64 e, .int .i64 sd, .string d]] w fun e1 w' => e1 = .returned (.tuple #[.string (linF nm a b d0 e sd d), .int .i64 0]) ∧ Below w.heap.size w w' := by
  obtain ⟨W0, hW0⟩ : ∃ W0, w.alloc (.cells #[.int .i64 k, .int .i64 e, .int .i64 sd, .string d] 23) = W0 := ⟨_, rfl⟩
  have hc := Lib.hid (hW0 ▸ HCmd.new w 23 k e sd d)
  have hb0 : Below w.heap.size w W0 := hW0 ▸ alb w _
  obtain ⟨c0, c1, c2, c3⟩ := hc.out
  have hfin : ∀ t W, t = linF nm a b d0 e sd d → Below W0.heap.size W0 W → (fun e1 w' => e1 = Ending.returned (.tuple #[.string (linF nm a b d0 e sd d), .int .i64 0]) ∧ Below w.heap.size w w') (.returned (.tuple #[.string t, .int .i64 0])) W := by
    rintro t W rfl hb
    exact ⟨rfl, bt hb0 hb⟩
  generalize (fun e1 w' => e1 = Ending.returned (.tuple #[.string (linF nm a b d0 e sd d), .int .i64 0]) ∧ Below w.heap.size w w') = Pst at *
  have hfin := Lib.hid hfin
  have hC := Lib.hid hC
  have hO := Lib.hid hO
  have hH := Lib.hid hH
  have hB := Lib.hid (fun w => rbytes_any33 d w (by omega))
  have ht := text_size e
  have hss : (sideS sd).size ≤ 1 := by unfold sideS; split <;> exact Nat.le_refl _
  have hbs : (bytS d).size ≤ 400 := by
    unfold bytS; split
    · show 1 ≤ 400; omega
    · rw [hexS_size]; omega
  clear hb0
  rcases hcombo with ⟨rfl, rfl, rfl⟩ | ⟨rfl, rfl, rfl⟩ | ⟨rfl, rfl, rfl⟩ | ⟨rfl, rfl, rfl⟩
  · clear he hsd
    go_enter Try.func8, Try.ntmps8
    go_wp2_with (first | (go_at_call 10; (with_reducible refine (hC.out _).mono ?_); rintro e1 w1 ⟨rfl, hb1⟩; obtain ⟨q0, q1, q2, q3⟩ := hc.out.below hb1) | (go_at_call 20; (with_reducible refine (hH.out _).mono ?_); rintro e1 w2 ⟨rfl, hb2⟩; have hb3 := Lib.hid (bt (bt hb1 hb2) (alb w2 (.cells #[.bool false, .bool false, .bool false] 45))); have hh := Lib.hid (HHas.new w2 45 false false false); obtain ⟨s0, s1, s2⟩ := hh.out; obtain ⟨r0, r1, r2, r3⟩ := hc.out.below hb3.out) | (go_at_call 21; (with_reducible refine (hO.out _).mono ?_); rintro e1 w4 ⟨rfl, hb4⟩; have hb5 := Lib.hid (bt hb3.out hb4); obtain ⟨v0, v1, v2⟩ := hh.out.below hb4; obtain ⟨p0, p1, p2, p3⟩ := hc.out.below hb5.out; have hh4 := Lib.hid (hh.out.below hb4)) | (go_at_call 22; (with_reducible refine (hT.out _).mono ?_); rintro e1 w6 ⟨rfl, hb6⟩; have hb7 := Lib.hid (bt hb5.out hb6); obtain ⟨l0, l1, l2⟩ := hh4.out.below hb6; obtain ⟨m0, m1, m2, m3⟩ := hc.out.below hb7.out) | (go_at_call 16; (with_reducible refine (hB.out _).mono ?_); rintro e1 w8 ⟨rfl, hb8⟩; have hb9 := Lib.hid (bt hb7.out hb8)))
    first | exact hfin.out _ _ (by simp [linF, emp_app, spS]) hb9.out | exact hfin.out _ _ (by simp [linF, emp_app, spS]) hb7.out | exact hfin.out _ _ (by simp [linF, emp_app, spS]) hb5.out
  · obtain ⟨y1, y2⟩ := he rfl
    clear he hsd
    have hT := Lib.hid (fun w => rtext_any e w (by omega) (by omega))
    go_enter Try.func8, Try.ntmps8
    go_wp2_with (first | (go_at_call 10; (with_reducible refine (hC.out _).mono ?_); rintro e1 w1 ⟨rfl, hb1⟩; obtain ⟨q0, q1, q2, q3⟩ := hc.out.below hb1) | (go_at_call 20; (with_reducible refine (hH.out _).mono ?_); rintro e1 w2 ⟨rfl, hb2⟩; have hb3 := Lib.hid (bt (bt hb1 hb2) (alb w2 (.cells #[.bool true, .bool false, .bool false] 45))); have hh := Lib.hid (HHas.new w2 45 true false false); obtain ⟨s0, s1, s2⟩ := hh.out; obtain ⟨r0, r1, r2, r3⟩ := hc.out.below hb3.out) | (go_at_call 21; (with_reducible refine (hO.out _).mono ?_); rintro e1 w4 ⟨rfl, hb4⟩; have hb5 := Lib.hid (bt hb3.out hb4); obtain ⟨v0, v1, v2⟩ := hh.out.below hb4; obtain ⟨p0, p1, p2, p3⟩ := hc.out.below hb5.out; have hh4 := Lib.hid (hh.out.below hb4)) | (go_at_call 22; (with_reducible refine (hT.out _).mono ?_); rintro e1 w6 ⟨rfl, hb6⟩; have hb7 := Lib.hid (bt hb5.out hb6); obtain ⟨l0, l1, l2⟩ := hh4.out.below hb6; obtain ⟨m0, m1, m2, m3⟩ := hc.out.below hb7.out) | (go_at_call 16; (with_reducible refine (hB.out _).mono ?_); rintro e1 w8 ⟨rfl, hb8⟩; have hb9 := Lib.hid (bt hb7.out hb8)))
    first | exact hfin.out _ _ (by simp [linF, emp_app, spS]) hb9.out | exact hfin.out _ _ (by simp [linF, emp_app, spS]) hb7.out | exact hfin.out _ _ (by simp [linF, emp_app, spS]) hb5.out
  · obtain ⟨y1, y2⟩ := he rfl
    obtain ⟨x1, x2⟩ := hsd rfl
    clear he hsd
    have hT := Lib.hid (fun w => rtext_any e w (by omega) (by omega))
    have hs2 : sd = 0 ∨ sd = 1 := by omega
    rcases hs2 with rfl | rfl
    · have hx : (⟨#[97, 98]⟩ : ByteArray).extract 0 1 = sideS 0 := by decide
      go_enter Try.func8, Try.ntmps8
      go_wp2_with (first | (go_at_call 10; (with_reducible refine (hC.out _).mono ?_); rintro e1 w1 ⟨rfl, hb1⟩; obtain ⟨q0, q1, q2, q3⟩ := hc.out.below hb1) | (go_at_call 20; (with_reducible refine (hH.out _).mono ?_); rintro e1 w2 ⟨rfl, hb2⟩; have hb3 := Lib.hid (bt (bt hb1 hb2) (alb w2 (.cells #[.bool true, .bool true, .bool false] 45))); have hh := Lib.hid (HHas.new w2 45 true true false); obtain ⟨s0, s1, s2⟩ := hh.out; obtain ⟨r0, r1, r2, r3⟩ := hc.out.below hb3.out) | (go_at_call 21; (with_reducible refine (hO.out _).mono ?_); rintro e1 w4 ⟨rfl, hb4⟩; have hb5 := Lib.hid (bt hb3.out hb4); obtain ⟨v0, v1, v2⟩ := hh.out.below hb4; obtain ⟨p0, p1, p2, p3⟩ := hc.out.below hb5.out; have hh4 := Lib.hid (hh.out.below hb4)) | (go_at_call 22; (with_reducible refine (hT.out _).mono ?_); rintro e1 w6 ⟨rfl, hb6⟩; have hb7 := Lib.hid (bt hb5.out hb6); obtain ⟨l0, l1, l2⟩ := hh4.out.below hb6; obtain ⟨m0, m1, m2, m3⟩ := hc.out.below hb7.out) | (go_at_call 16; (with_reducible refine (hB.out _).mono ?_); rintro e1 w8 ⟨rfl, hb8⟩; have hb9 := Lib.hid (bt hb7.out hb8)))
      first | exact hfin.out _ _ (by simp [linF, emp_app, spS]) hb9.out | exact hfin.out _ _ (by simp [linF, emp_app, spS]) hb7.out | exact hfin.out _ _ (by simp [linF, emp_app, spS]) hb5.out
    · have hx : (⟨#[97, 98]⟩ : ByteArray).extract 1 2 = sideS 1 := by decide
      go_enter Try.func8, Try.ntmps8
      go_wp2_with (first | (go_at_call 10; (with_reducible refine (hC.out _).mono ?_); rintro e1 w1 ⟨rfl, hb1⟩; obtain ⟨q0, q1, q2, q3⟩ := hc.out.below hb1) | (go_at_call 20; (with_reducible refine (hH.out _).mono ?_); rintro e1 w2 ⟨rfl, hb2⟩; have hb3 := Lib.hid (bt (bt hb1 hb2) (alb w2 (.cells #[.bool true, .bool true, .bool false] 45))); have hh := Lib.hid (HHas.new w2 45 true true false); obtain ⟨s0, s1, s2⟩ := hh.out; obtain ⟨r0, r1, r2, r3⟩ := hc.out.below hb3.out) | (go_at_call 21; (with_reducible refine (hO.out _).mono ?_); rintro e1 w4 ⟨rfl, hb4⟩; have hb5 := Lib.hid (bt hb3.out hb4); obtain ⟨v0, v1, v2⟩ := hh.out.below hb4; obtain ⟨p0, p1, p2, p3⟩ := hc.out.below hb5.out; have hh4 := Lib.hid (hh.out.below hb4)) | (go_at_call 22; (with_reducible refine (hT.out _).mono ?_); rintro e1 w6 ⟨rfl, hb6⟩; have hb7 := Lib.hid (bt hb5.out hb6); obtain ⟨l0, l1, l2⟩ := hh4.out.below hb6; obtain ⟨m0, m1, m2, m3⟩ := hc.out.below hb7.out) | (go_at_call 16; (with_reducible refine (hB.out _).mono ?_); rintro e1 w8 ⟨rfl, hb8⟩; have hb9 := Lib.hid (bt hb7.out hb8)))
      first | exact hfin.out _ _ (by simp [linF, emp_app, spS]) hb9.out | exact hfin.out _ _ (by simp [linF, emp_app, spS]) hb7.out | exact hfin.out _ _ (by simp [linF, emp_app, spS]) hb5.out
  · obtain ⟨y1, y2⟩ := he rfl
    clear he hsd
    have hT := Lib.hid (fun w => rtext_any e w (by omega) (by omega))
    go_enter Try.func8, Try.ntmps8
    go_wp2_with (first | (go_at_call 10; (with_reducible refine (hC.out _).mono ?_); rintro e1 w1 ⟨rfl, hb1⟩; obtain ⟨q0, q1, q2, q3⟩ := hc.out.below hb1) | (go_at_call 20; (with_reducible refine (hH.out _).mono ?_); rintro e1 w2 ⟨rfl, hb2⟩; have hb3 := Lib.hid (bt (bt hb1 hb2) (alb w2 (.cells #[.bool true, .bool false, .bool true] 45))); have hh := Lib.hid (HHas.new w2 45 true false true); obtain ⟨s0, s1, s2⟩ := hh.out; obtain ⟨r0, r1, r2, r3⟩ := hc.out.below hb3.out) | (go_at_call 21; (with_reducible refine (hO.out _).mono ?_); rintro e1 w4 ⟨rfl, hb4⟩; have hb5 := Lib.hid (bt hb3.out hb4); obtain ⟨v0, v1, v2⟩ := hh.out.below hb4; obtain ⟨p0, p1, p2, p3⟩ := hc.out.below hb5.out; have hh4 := Lib.hid (hh.out.below hb4)) | (go_at_call 22; (with_reducible refine (hT.out _).mono ?_); rintro e1 w6 ⟨rfl, hb6⟩; have hb7 := Lib.hid (bt hb5.out hb6); obtain ⟨l0, l1, l2⟩ := hh4.out.below hb6; obtain ⟨m0, m1, m2, m3⟩ := hc.out.below hb7.out) | (go_at_call 16; (with_reducible refine (hB.out _).mono ?_); rintro e1 w8 ⟨rfl, hb8⟩; have hb9 := Lib.hid (bt hb7.out hb8)))
    first | exact hfin.out _ _ (by simp [linF, emp_app, spS]) hb9.out | exact hfin.out _ _ (by simp [linF, emp_app, spS]) hb7.out | exact hfin.out _ _ (by simp [linF, emp_app, spS]) hb5.out
theorem rprint_any33 (c : Cmd) (w : World) : Calls Try.prog 8 #[cmdV c] w fun e w' => e = .returned (.tuple #[.string (prnS c), .int .i64 (chkC c)]) ∧ Below w.heap.size w w' := by
  have hC := fun w => rcheck_any33 c w
  unfold prnS
  by_cases h0 : chkC c = 0
  · rw [if_pos h0, h0, lin_eq]
    rw [h0] at hC
    obtain ⟨h1, h2, h3, h4, _⟩ := chk_ok h0
    exact rprint33 _ _ _ _ c.k c.e c.sd c.d w (kind_combo h1) h2 h3 h4 (name_size h1) hC (fun w => rname_any c.k w) (fun w => rhas_any33 c.k w)
  · rw [if_neg h0]
    generalize chkC c = n at *
    obtain ⟨k, e, sd, d⟩ := c
    unfold cmdV at *
    simp only at *
    obtain ⟨W0, hW0⟩ : ∃ W0, w.alloc (.cells #[.int .i64 k, .int .i64 e, .int .i64 sd, .string d] 23) = W0 := ⟨_, rfl⟩
    obtain ⟨c0, c1, c2, c3⟩ := hW0 ▸ HCmd.new w 23 k e sd d
    have hb0 : Below w.heap.size w W0 := hW0 ▸ alb w _
    have hd : (n == 0) = false := by rw [beq_eq_false_iff_ne]; exact h0
    have hC := Lib.hid hC
    go_enter Try.func8, Try.ntmps8
    go_wp2_with (go_at_call 10; (with_reducible refine (hC.out _).mono ?_); rintro e1 w1 ⟨rfl, hb1⟩)
    go_ret2
    exact ⟨rfl, bt hb0 hb1⟩
end Go.Proofs.Ytkcnpahnhmcegaa
