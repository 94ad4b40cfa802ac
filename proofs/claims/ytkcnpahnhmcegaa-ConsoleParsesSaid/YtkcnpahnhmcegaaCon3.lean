/-
  Commands (chapter 33): checked, the reference.
-/
import Derived.Test.YtkcnpahnhmcegaaCon2
namespace Go.Proofs.Ytkcnpahnhmcegaa
open Go.RowKit
set_option linter.unusedVariables false
set_option linter.unusedSimpArgs false

theorem name_emp (k : Int) : (nameK k).toList.isEmpty = !inK k := by
  rw [emp_iff]
  cases hk : inK k with
  | true =>
    rcases inK_cases hk with rfl | rfl | rfl | rfl | rfl | rfl | rfl | rfl | rfl | rfl <;> rfl
  | false =>
    have h := of_decide_eq_false hk
    unfold nameK
    rw [if_neg (by omega), if_neg (by omega), if_neg (by omega), if_neg (by omega), if_neg (by omega), if_neg (by omega), if_neg (by omega), if_neg (by omega), if_neg (by omega), if_neg (by omega)]
    rfl
set_option maxHeartbeats 3200000 in
theorem rcheck_any33 (c : Cmd) (w : World) : Calls Try.prog 10 #[cmdV c] w fun e w' => e = .returned (.int .i64 (chkC c)) ∧ Below w.heap.size w w' := by
  rw [chkC_eq]
  have hO := fun w => rname_any c.k w
  have hH := fun w => rhas_any33 c.k w
  have hnm := name_emp c.k
  have hz2 := Lib.hid (And.intro (emp_eq0 c.d) (emp_eq1 c.d))
  obtain ⟨k, e, sd, d⟩ := c
  unfold hasV at hH
  unfold cmdV
  simp only at hO hH hnm hz2 ⊢
  generalize nameK k = nm at *
  generalize inK k = i at *
  generalize Ytkcnpahnhmcegaa.hE k = a at *
  generalize Ytkcnpahnhmcegaa.hS k = b at *
  generalize Ytkcnpahnhmcegaa.hB k = d0 at *
  have hE0 : ∀ (v : Int) W, v = chkF i a b d0 e sd d.size → Below w.heap.size w W → (fun (e1 : Ending) (w' : World) => e1 = .returned (.int .i64 (chkF i a b d0 e sd d.size)) ∧ Below w.heap.size w w') (.returned (.int .i64 v)) W := by
    rintro v W rfl hb
    exact ⟨rfl, hb⟩
  generalize (fun (e1 : Ending) (w' : World) => e1 = .returned (.int .i64 (chkF i a b d0 e sd d.size)) ∧ Below w.heap.size w w') = Pst at *
  have hE := Lib.hid hE0
  clear hE0
  have hO := Lib.hid hO
  have hH := Lib.hid hH
  obtain ⟨W0, hW0⟩ : ∃ W0, w.alloc (.cells #[.int .i64 k, .int .i64 e, .int .i64 sd, .string d] 23) = W0 := ⟨_, rfl⟩
  have hc := Lib.hid (hW0 ▸ HCmd.new w 23 k e sd d)
  have hb0 := Lib.hid (hW0 ▸ alb w _ : Below w.heap.size w W0)
  have c0 := hc.out.c0
  cases i with
  | false =>
    go_enter Try.func10, Try.ntmps10
    go_wp2_with (go_at_call 21; (with_reducible refine (hO.out _).mono ?_); rintro e1 w1 ⟨rfl, hb1⟩; have hb2 := bt hb0.out hb1)
    exact hE.out _ _ rfl hb2
  | true =>
    go_enter Try.func10, Try.ntmps10
    go_wp2_with (first | (go_at_call 21; (with_reducible refine (hO.out _).mono ?_); rintro e1 w1 ⟨rfl, hb1⟩; have c0' := (hc.out.below hb1).c0) | (go_at_call 20; (with_reducible refine (hH.out _).mono ?_); rintro e1 w2 ⟨rfl, hb2⟩; obtain ⟨W1, hW1⟩ : ∃ W1, w2.alloc (.cells #[.bool a, .bool b, .bool d0] 45) = W1 := ⟨_, rfl⟩; have hs := hW1 ▸ HHas.new w2 45 a b d0; have hb3 := bt hb0.out (bt hb1 (bt hb2 (hW1 ▸ alb w2 _))); obtain ⟨s0, s1, s2⟩ := hs; obtain ⟨q0, q1, q2, q3⟩ := hc.out.below (bt hb1 (bt hb2 (hW1 ▸ alb w2 _)))))
    all_goals
      refine hE.out _ _ ?_ hb3
      clear hE hO hH hc hb0 hb1 hb2 hb3 s0 s1 s2 q0 q1 q2 q3 hW0 hW1 hnm
      unfold chkF
      have hzz := hz2.out.2
      clear hz2 c0 c0'
      by_cases hn : d.size = 0
      · have hl : d.toList = [] := hzz ▸ hn
        clear hzz
        simp_all <;> omega
      · have hl : ¬ d.toList = [] := fun h => hn (hzz ▸ h)
        clear hzz
        simp_all <;> omega
end Go.Proofs.Ytkcnpahnhmcegaa
