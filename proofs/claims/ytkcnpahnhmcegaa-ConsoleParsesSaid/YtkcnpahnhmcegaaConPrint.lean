/-
  Commands (chapter 33): printed.
-/
import Derived.Test.YtkcnpahnhmcegaaConWords
namespace Go.Proofs.Ytkcnpahnhmcegaa
open Go.RowKit
set_option linter.unusedVariables false
set_option linter.unusedSimpArgs false

def linF (nm : ByteArray) (a b d0 : Bool) (e sd : Int) (d : ByteArray) : ByteArray :=
  let x := if a then (nm ++ spS) ++ textS e else nm
  let y := if b then (x ++ spS) ++ sideS sd else x
  if d0 then (y ++ spS) ++ bytS d else y
theorem lin_eq (c : Cmd) : linS c = linF (nameK c.k) (hE c.k) (hS c.k) (hB c.k) c.e c.sd c.d := rfl
theorem Anys.get {w : World} {B : Nat} {v : Value} {l : List Value} (h : Anys w B v l) (h0 : l ≠ []) : ∃ g cap, v = .slice (some ⟨g, 0, none⟩) l.length cap ∧ l.length ≤ cap ∧ ∀ j, j < l.length → w.cell? ⟨g, j, none⟩ = l[j]? := by
  rcases h.2 with ⟨_, h2⟩ | ⟨g, cap, cur, rfl, hg, hc, hn, r⟩
  · exact absurd (List.length_eq_zero_iff.1 h2) h0
  · exact ⟨g, cap, rfl, hn, fun j hj => World.ownsRow.cellAt h j (by omega)⟩
theorem ta_si (s : ByteArray) (W : World) : (Instr.typeAssert (.iface 9 (.string s)) 20 3 true).run Try.prog W = .ok (.tuple #[.int .i64 0, .bool false]) W := by rfl
theorem ta_st (s : ByteArray) (W : World) : (Instr.typeAssert (.iface 9 (.string s)) 20 9 true).run Try.prog W = .ok (.tuple #[.string s, .bool true]) W := by rfl
theorem ta_ii (n : Int) (W : World) : (Instr.typeAssert (.iface 3 (.int .i64 n)) 20 3 true).run Try.prog W = .ok (.tuple #[.int .i64 n, .bool true]) W := by rfl
theorem emp_app (s : ByteArray) : (⟨#[]⟩ : ByteArray) ++ s = s := by
  apply ba_data
  rw [app_list]; rfl
theorem kind_combo {k : Int} (h : inK k = true) : (hE k = false ∧ hS k = false ∧ hB k = false) ∨ (hE k = true ∧ hS k = false ∧ hB k = false) ∨ (hE k = true ∧ hS k = true ∧ hB k = false) ∨ (hE k = true ∧ hS k = false ∧ hB k = true) := by
  rcases inK_cases h with rfl | rfl | rfl | rfl | rfl | rfl | rfl | rfl | rfl | rfl <;> decide
set_option maxHeartbeats 6400000 in
theorem print33 (nm : ByteArray) (a b d0 : Bool) (k e sd : Int) (d : ByteArray) (w : World) (hcombo : (a = false ∧ b = false ∧ d0 = false) ∨ (a = true ∧ b = false ∧ d0 = false) ∨ (a = true ∧ b = true ∧ d0 = false) ∨ (a = true ∧ b = false ∧ d0 = true))
    (he : a = true → 0 ≤ e ∧ e ≤ 23) (hsd : b = true → 0 ≤ sd ∧ sd ≤ 1) (hd : d.size ≤ 200) (hn : nm.size ≤ 7)
    (hC : ∀ w, Calls Try.prog 9 #[.agg #[.int .i64 k, .int .i64 e, .int .i64 sd, .string d]] w fun e w' => e = .returned (.int .i64 0) ∧ Below w.heap.size w w')
    (hO : ∀ w, Calls Try.prog 17 #[.int .i64 k] w fun e w' => e = .returned (.tuple #[.agg #[.string nm, .bool a, .bool b, .bool d0], .bool true]) ∧ Below w.heap.size w w') :
    Calls Try.prog 7 #[.agg #[.int .i64 k, .int .i64 e, .int .i64 sd, .string d]] w fun e1 w' => e1 = .returned (.tuple #[.string (linF nm a b d0 e sd d), .int .i64 0]) ∧ Below w.heap.size w w' := by
  obtain ⟨W0, hW0⟩ : ∃ W0, w.alloc (.cells #[.int .i64 k, .int .i64 e, .int .i64 sd, .string d] 23) = W0 := ⟨_, rfl⟩
  have hc := Lib.hid (hW0 ▸ HCmd.new w 23 k e sd d)
  have hb0 : Below w.heap.size w W0 := hW0 ▸ alb w _
  obtain ⟨c0, c1, c2, c3⟩ := hc.out
  have hfin : ∀ t W, t = linF nm a b d0 e sd d → Below W0.heap.size W0 W → (fun e1 w' => e1 = Ending.returned (.tuple #[.string (linF nm a b d0 e sd d), .int .i64 0]) ∧ Below w.heap.size w w') (.returned (.tuple #[.string t, .int .i64 0])) W := by
    rintro t W rfl hb
    exact ⟨rfl, bt hb0 hb⟩
  generalize (fun e1 w' => e1 = Ending.returned (.tuple #[.string (linF nm a b d0 e sd d), .int .i64 0]) ∧ Below w.heap.size w w') = Pst at *
  have hfin := Lib.hid hfin
  have hC := Lib.hid hC
  have hO := Lib.hid hO
  have hsd := Lib.hid hsd
  have he := Lib.hid he
  have ht := text_size e
  have hss : (sideS sd).size ≤ 1 := by unfold sideS; split <;> exact Nat.le_refl _
  have hbs : (bytS d).size ≤ 400 := by
    unfold bytS; split
    · show 1 ≤ 400; omega
    · rw [hexS_size]; omega
  have t1 := ta_si
  have t2 := ta_st
  have t3 := ta_ii
  clear hb0
  rcases hcombo with ⟨rfl, rfl, rfl⟩ | ⟨rfl, rfl, rfl⟩ | ⟨rfl, rfl, rfl⟩ | ⟨rfl, rfl, rfl⟩
  · skip
    go_enter Try.func7, Try.ntmps7
    go_wp2_with (first | (go_at_call 9; (with_reducible refine (hC.out _).mono ?_); rintro e1 w1 ⟨rfl, hb1⟩; obtain ⟨q0, q1, q2, q3⟩ := hc.out.below hb1) | (go_at_call 17; (with_reducible refine (hO.out _).mono ?_); rintro e1 w2 ⟨rfl, hb2⟩; have hb3 := Lib.hid (bt (bt hb1 hb2) (alb w2 (.cells #[.string nm, .bool false, .bool false, .bool false] 37))); obtain ⟨s0, s1, s2, s3⟩ := HShp.new w2 37 nm false false false; obtain ⟨r0, r1, r2, r3⟩ := hc.out.below hb3.out) | (go_at_call 18; (with_reducible refine (words33 nm false false false k e sd d _ (by omega) (fun h => absurd h (by decide))).mono ?_); rintro e1 w4 ⟨⟨v4, B4, rfl, hBx, hA4⟩, hb4⟩; obtain ⟨g, cap, rfl, hcap, hgl⟩ := hA4.get (by simp); have hb5 := bt hb3.out hb4; clear hA4 hb4 hb3 hBx hb1 hb2 s0 s1 s2 s3 r0 r1 r2 r3 q0 q1 q2 q3))
    have z0 : w4.cell? ⟨g, 0, none⟩ = some (.iface 9 (.string nm)) := hgl 0 (by simp)
    clear hgl
    refine wp_loop_rounds 2 ?_
    rw [rounds_succ]; go_wp2
    rw [rounds_succ]; go_wp2
    trace_state
    exact hfin.out _ _ (by simp [linF, emp_app]) hb5
  · skip
    obtain ⟨y1, y2⟩ := he.out rfl
    go_enter Try.func7, Try.ntmps7
    go_wp2_with (first | (go_at_call 9; (with_reducible refine (hC.out _).mono ?_); rintro e1 w1 ⟨rfl, hb1⟩; obtain ⟨q0, q1, q2, q3⟩ := hc.out.below hb1) | (go_at_call 17; (with_reducible refine (hO.out _).mono ?_); rintro e1 w2 ⟨rfl, hb2⟩; have hb3 := Lib.hid (bt (bt hb1 hb2) (alb w2 (.cells #[.string nm, .bool true, .bool false, .bool false] 37))); obtain ⟨s0, s1, s2, s3⟩ := HShp.new w2 37 nm true false false; obtain ⟨r0, r1, r2, r3⟩ := hc.out.below hb3.out) | (go_at_call 18; (with_reducible refine (words33 nm true false false k e sd d _ (by omega) (fun h => absurd h (by decide))).mono ?_); rintro e1 w4 ⟨⟨v4, B4, rfl, hBx, hA4⟩, hb4⟩; obtain ⟨g, cap, rfl, hcap, hgl⟩ := hA4.get (by simp); have hb5 := bt hb3.out hb4; clear hA4 hb4 hb3 hBx hb1 hb2 s0 s1 s2 s3 r0 r1 r2 r3 q0 q1 q2 q3))
    have z0 : w4.cell? ⟨g, 0, none⟩ = some (.iface 9 (.string nm)) := hgl 0 (by simp)
    have hT := Lib.hid (fun w => text_any e w (by omega) (by omega))
    have z1 : w4.cell? ⟨g, 1, none⟩ = some (.iface 3 (.int .i64 e)) := hgl 1 (by simp)
    clear hgl
    refine wp_loop_rounds 3 ?_
    rw [rounds_succ]; go_wp2
    rw [rounds_succ]; go_wp2_with (go_at_call 19; (with_reducible refine (hT.out _).mono ?_); rintro e1 w5 ⟨rfl, hb6⟩)
    rw [rounds_succ]; go_wp2
    trace_state
    exact hfin.out _ _ (by simp [linF, emp_app, spS]) (bt hb5 hb6)
  · skip
    obtain ⟨y1, y2⟩ := he.out rfl
    obtain ⟨x1, x2⟩ := hsd.out rfl
    go_enter Try.func7, Try.ntmps7
    go_wp2_with (first | (go_at_call 9; (with_reducible refine (hC.out _).mono ?_); rintro e1 w1 ⟨rfl, hb1⟩; obtain ⟨q0, q1, q2, q3⟩ := hc.out.below hb1) | (go_at_call 17; (with_reducible refine (hO.out _).mono ?_); rintro e1 w2 ⟨rfl, hb2⟩; have hb3 := Lib.hid (bt (bt hb1 hb2) (alb w2 (.cells #[.string nm, .bool true, .bool true, .bool false] 37))); obtain ⟨s0, s1, s2, s3⟩ := HShp.new w2 37 nm true true false; obtain ⟨r0, r1, r2, r3⟩ := hc.out.below hb3.out) | (go_at_call 18; (with_reducible refine (words33 nm true true false k e sd d _ (by omega) (fun _ => ⟨x1, x2⟩)).mono ?_); rintro e1 w4 ⟨⟨v4, B4, rfl, hBx, hA4⟩, hb4⟩; obtain ⟨g, cap, rfl, hcap, hgl⟩ := hA4.get (by simp); have hb5 := bt hb3.out hb4; clear hA4 hb4 hb3 hBx hb1 hb2 s0 s1 s2 s3 r0 r1 r2 r3 q0 q1 q2 q3))
    have z0 : w4.cell? ⟨g, 0, none⟩ = some (.iface 9 (.string nm)) := hgl 0 (by simp)
    have hT := Lib.hid (fun w => text_any e w (by omega) (by omega))
    have z1 : w4.cell? ⟨g, 1, none⟩ = some (.iface 3 (.int .i64 e)) := hgl 1 (by simp)
    have z2 : w4.cell? ⟨g, 2, none⟩ = some (.iface 9 (.string (sideS sd))) := hgl 2 (by simp)
    clear hgl
    refine wp_loop_rounds 4 ?_
    rw [rounds_succ]; go_wp2
    rw [rounds_succ]; go_wp2_with (go_at_call 19; (with_reducible refine (hT.out _).mono ?_); rintro e1 w5 ⟨rfl, hb6⟩; have y9 := bkeep hb6 z2)
    rw [rounds_succ]; go_wp2
    rw [rounds_succ]; go_wp2
    exact hfin.out _ _ (by simp [linF, emp_app, spS]) (bt hb5 hb6)
  · skip
    obtain ⟨y1, y2⟩ := he.out rfl
    go_enter Try.func7, Try.ntmps7
    go_wp2_with (first | (go_at_call 9; (with_reducible refine (hC.out _).mono ?_); rintro e1 w1 ⟨rfl, hb1⟩; obtain ⟨q0, q1, q2, q3⟩ := hc.out.below hb1) | (go_at_call 17; (with_reducible refine (hO.out _).mono ?_); rintro e1 w2 ⟨rfl, hb2⟩; have hb3 := Lib.hid (bt (bt hb1 hb2) (alb w2 (.cells #[.string nm, .bool true, .bool false, .bool true] 37))); obtain ⟨s0, s1, s2, s3⟩ := HShp.new w2 37 nm true false true; obtain ⟨r0, r1, r2, r3⟩ := hc.out.below hb3.out) | (go_at_call 18; (with_reducible refine (words33 nm true false true k e sd d _ (by omega) (fun h => absurd h (by decide))).mono ?_); rintro e1 w4 ⟨⟨v4, B4, rfl, hBx, hA4⟩, hb4⟩; obtain ⟨g, cap, rfl, hcap, hgl⟩ := hA4.get (by simp); have hb5 := bt hb3.out hb4; clear hA4 hb4 hb3 hBx hb1 hb2 s0 s1 s2 s3 r0 r1 r2 r3 q0 q1 q2 q3))
    have z0 : w4.cell? ⟨g, 0, none⟩ = some (.iface 9 (.string nm)) := hgl 0 (by simp)
    have hT := Lib.hid (fun w => text_any e w (by omega) (by omega))
    have z1 : w4.cell? ⟨g, 1, none⟩ = some (.iface 3 (.int .i64 e)) := hgl 1 (by simp)
    have z2 : w4.cell? ⟨g, 2, none⟩ = some (.iface 9 (.string (bytS d))) := hgl 2 (by simp)
    clear hgl
    refine wp_loop_rounds 4 ?_
    rw [rounds_succ]; go_wp2
    rw [rounds_succ]; go_wp2_with (go_at_call 19; (with_reducible refine (hT.out _).mono ?_); rintro e1 w5 ⟨rfl, hb6⟩; have y9 := bkeep hb6 z2)
    rw [rounds_succ]; go_wp2
    rw [rounds_succ]; go_wp2
    exact hfin.out _ _ (by simp [linF, emp_app, spS]) (bt hb5 hb6)
end Go.Proofs.Ytkcnpahnhmcegaa
