/-
  The works of chapter 34's statements; what is great.
-/
import Derived.Test.YtaddbljdheafaaaDoorRep7
namespace Go.Proofs.YtaddbljdheafaaaDoor
open Go.RowKit
set_option linter.unusedVariables false
set_option linter.unusedSimpArgs false
set_option maxRecDepth 20000

def litS : ByteArray := ⟨#[99, 108, 97, 115, 104, 32, 51, 32, 97, 32, 50, 46, 49, 32, 48, 48, 48, 48, 48, 48, 48, 48, 32, 98, 32, 48, 46, 48, 32, 48, 48, 48, 48, 48, 48, 48, 48]⟩
theorem lit_st : stS 3 1 0 0 ⟨#[]⟩ 2 1 ⟨#[]⟩ 0 0 ⟨#[]⟩ = litS := by decide +kernel
theorem lit_err : errS 16 = ⟨#[101, 114, 114, 111, 114, 32, 49, 54]⟩ := by decide +kernel
theorem lit_rd : rdV (cuts litS) = .tuple #[.int .i64 3, VV 2 1, VV 0 0, .int .i64 0] := by
  unfold rdV
  rw [if_pos (by decide +kernel)]
  unfold goodV
  have e1 : readV ((cuts litS).getD 1 noB) = 3 := by decide +kernel
  have e2 : readV (cA ((cuts litS).getD 3 noB)) = 2 := by decide +kernel
  have e3 : readV (cB ((cuts litS).getD 3 noB)) = 1 := by decide +kernel
  have e4 : readV (cA ((cuts litS).getD 6 noB)) = 0 := by decide +kernel
  have e5 : readV (cB ((cuts litS).getD 6 noB)) = 0 := by decide +kernel
  rw [e1, e2, e3, e4, e5]
theorem vec_eql (a b : Int) (W : World) : (binOp .eql 23 (.agg #[.int .i64 a, .int .i64 b]) (.agg #[.int .i64 a, .int .i64 b])).run Tryd.prog W = .ok (.bool true) W := by simp [go_sem]
theorem state_lit (W : World) : Calls Tryd.prog 10 #[.int .i64 3, SS 1 0 0 ⟨#[]⟩ 2 1 ⟨#[]⟩ 0 0 ⟨#[]⟩] W fun e w' => e = .returned (.string ⟨#[99, 108, 97, 115, 104, 32, 51, 32, 97, 32, 50, 46, 49, 32, 48, 48, 48, 48, 48, 48, 48, 48, 32, 98, 32, 48, 46, 48, 32, 48, 48, 48, 48, 48, 48, 48, 48]⟩) ∧ Below W.heap.size W w' := by
  have := state_any 3 1 0 0 ⟨#[]⟩ 2 1 ⟨#[]⟩ 0 0 ⟨#[]⟩ W ⟨by decide, by decide⟩ ⟨by decide, by decide⟩ ⟨by decide, by decide⟩ ⟨by decide, by decide⟩ ⟨by decide, by decide⟩ ⟨by decide, by decide⟩ ⟨by decide, by decide⟩ (by decide) (by decide) (by decide)
  rw [lit_st] at this
  exact this
theorem read_lit (W : World) (hm : ML W) : Calls Tryd.prog 8 #[.string ⟨#[99, 108, 97, 115, 104, 32, 51, 32, 97, 32, 50, 46, 49, 32, 48, 48, 48, 48, 48, 48, 48, 48, 32, 98, 32, 48, 46, 48, 32, 48, 48, 48, 48, 48, 48, 48, 48]⟩] W fun e w' => e = .returned (.tuple #[.int .i64 3, .agg #[.int .i64 2, .int .i64 1], .agg #[.int .i64 0, .int .i64 0], .int .i64 0]) ∧ Below W.heap.size W w' := by
  have := read_conf litS W (by decide) hm
  unfold RE at this
  rw [lit_rd] at this
  exact this
theorem error_lit (W : World) : Calls Tryd.prog 21 #[.int .i64 16] W fun e w' => e = .returned (.string ⟨#[101, 114, 114, 111, 114, 32, 49, 54]⟩) ∧ Below W.heap.size W w' := by
  have := error_any 16 W ⟨by decide, by decide⟩
  rw [lit_err] at this
  exact this
set_option maxHeartbeats 3200000 in
theorem works_any (w : World) (hm : ML w) : Calls Tryd.prog 6 #[] w fun e w' => e = .returned (.bool true) ∧ Below w.heap.size w w' := by
  have hE0 : ∀ W, Below w.heap.size w W → (fun (e : Ending) (w' : World) => e = .returned (.bool true) ∧ Below w.heap.size w w') (.returned (.bool true)) W := fun W h => ⟨rfl, h⟩
  generalize (fun (e : Ending) (w' : World) => e = .returned (.bool true) ∧ Below w.heap.size w w') = Pst at *
  replace hE0 := Lib.hid hE0
  have h1 := Lib.hid (fun W => state_lit W)
  have h2 := Lib.hid (fun W h => read_lit W h)
  have h3 := Lib.hid (fun W => error_lit W)
  have hv := vec_eql
  replace hm := Lib.hid hm
  go_enter Tryd.func6, Tryd.ntmps6
  go_wp2_with (first | (go_at_call 10; (with_reducible refine (h1.out _).mono ?_); rintro e1 w1 ⟨rfl, hA⟩; have hb := Lib.hid hA; have hm1 := Lib.hid (hm.out.below hA); clear hA) | (go_at_call 8; (with_reducible refine (h2.out _ hm1.out).mono ?_); rintro e2 w2 ⟨rfl, hA⟩; replace hb := Lib.hid (bt hb.out hA); clear hA; replace hb := Lib.hid (bt hb.out (bt (alb w2 (.cells #[.int .i64 2, .int .i64 1] 23)) (alb _ (.cells #[.int .i64 0, .int .i64 0] 23))))) | (go_at_call 21; (with_reducible refine (h3.out _).mono ?_); rintro e3 w3 ⟨rfl, hA⟩; replace hb := Lib.hid (bt hb.out hA)))
  exact hE0.out _ hb.out
def greatB (d e f : ByteArray) : Bool := decide (1000 < d.size) || decide (1000 < e.size) || decide (1000 < f.size)
set_option maxHeartbeats 1600000 in
theorem great_any (k a b : Int) (d : ByteArray) (p q : Int) (e : ByteArray) (r s : Int) (f : ByteArray) (w : World) : Calls Tryd.prog 7 #[SS k a b d p q e r s f] w fun e' w' => e' = .returned (.bool (greatB d e f)) ∧ Below w.heap.size w w' := by
  by_cases h1 : 1000 < d.size
  · have d1 : decide ((1000 : Int) < (d.size : Int)) = true := decide_eq_true (by omega)
    have d2 : decide (1000 < d.size) = true := decide_eq_true h1
    have hg : greatB d e f = true := by unfold greatB; rw [d2]; rfl
    rw [hg]
    go_enter Tryd.func7, Tryd.ntmps7
    go_wp2
    go_ret
    exact ⟨rfl, alb w _⟩
  · have d1 : decide ((1000 : Int) < (d.size : Int)) = false := decide_eq_false (by omega)
    have d2 : decide (1000 < d.size) = false := decide_eq_false h1
    by_cases h3 : 1000 < e.size
    · have d3 : decide ((1000 : Int) < (e.size : Int)) = true := decide_eq_true (by omega)
      have d4 : decide (1000 < e.size) = true := decide_eq_true h3
      have hg : greatB d e f = true := by unfold greatB; rw [d4]; simp
      rw [hg]
      go_enter Tryd.func7, Tryd.ntmps7
      go_wp2
      go_ret
      exact ⟨rfl, alb w _⟩
    · have d3 : decide ((1000 : Int) < (e.size : Int)) = false := decide_eq_false (by omega)
      have d4 : decide (1000 < e.size) = false := decide_eq_false h3
      by_cases h5 : 1000 < f.size
      · have d5 : decide ((1000 : Int) < (f.size : Int)) = true := decide_eq_true (by omega)
        have d6 : decide (1000 < f.size) = true := decide_eq_true h5
        have hg : greatB d e f = true := by unfold greatB; rw [d6]; simp
        rw [hg]
        go_enter Tryd.func7, Tryd.ntmps7
        go_wp2
        go_ret
        exact ⟨rfl, alb w _⟩
      · have d5 : decide ((1000 : Int) < (f.size : Int)) = false := decide_eq_false (by omega)
        have d6 : decide (1000 < f.size) = false := decide_eq_false h5
        have hg : greatB d e f = false := by unfold greatB; rw [d2, d4, d6]; rfl
        rw [hg]
        go_enter Tryd.func7, Tryd.ntmps7
        go_wp2
        go_ret
        exact ⟨rfl, alb w _⟩
end Go.Proofs.YtaddbljdheafaaaDoor
