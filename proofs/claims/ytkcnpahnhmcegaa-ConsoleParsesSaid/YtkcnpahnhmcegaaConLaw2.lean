/-
  The statement ConsoleParses.
-/
import Derived.Test.YtkcnpahnhmcegaaConParse2
import Derived.Test.YtkcnpahnhmcegaaConLaw
namespace Go.Proofs.Ytkcnpahnhmcegaa
open Go.RowKit
set_option linter.unusedVariables false
set_option linter.unusedSimpArgs false

theorem rparse_of {s : ByteArray} {k e sd n : Int} {d : ByteArray} (h : prs s = (⟨k, e, sd, d⟩, n)) (w : World) (hs : s.size ≤ 3000) : Calls Try.prog 12 #[.string s] w fun e1 w' => e1 = .returned (.tuple #[.agg #[.int .i64 k, .int .i64 e, .int .i64 sd, .string d], .int .i64 n]) ∧ Below w.heap.size w w' := by
  have := rparse_any33 s w hs
  rw [h] at this
  exact this
set_option maxHeartbeats 3200000 in
theorem walk_ConsoleParses (s : ByteArray) (hs : s.size ≤ 140737488351232) {w : World} :
    Calls Try.prog 4 #[.string s] w fun e w' => e = .returned (.bool true) ∧ Below w.heap.size w w' := by
  by_cases hbig : 3000 < s.size
  · have g1 : decide ((3000 : Int) < (s.size : Int)) = true := decide_eq_true (by omega)
    clear hs hbig
    go_enter Try.func4, Try.ntmps4
    go_wp2_with (go_at_call 6; (with_reducible refine (works33 _).mono ?_); rintro e1 w1 ⟨rfl, hb1⟩)
    go_ret
    exact ⟨rfl, hb1⟩
  · have g1 : decide ((3000 : Int) < (s.size : Int)) = false := decide_eq_false (by omega)
    obtain ⟨⟨⟨k, e, sd, d⟩, n⟩, hp⟩ : ∃ x, prs s = x := ⟨_, rfl⟩
    have h1 := Lib.hid (fun w => parse_of hp w (by omega))
    have h2 := Lib.hid (fun w => rparse_of hp w (by omega))
    have h3 := Lib.hid (fun w => unbytes_any s w (by omega))
    have h4 := Lib.hid (fun w => runbytes_any s w (by omega))
    have h5 := Lib.hid (fun w => bytes_any33 s w (by omega))
    have h6 := Lib.hid (fun w => rbytes_any33 s w (by omega))
    have hss := cmp_same
    clear hp hs hbig
    generalize ubS s = us at *
    generalize ubE s = ue at *
    generalize bytS s = bs at *
    go_enter Try.func4, Try.ntmps4
    go_wp2_with (first | (go_at_call 6; (with_reducible refine (works33 _).mono ?_); rintro e1 w1 ⟨rfl, hb1⟩) | (go_at_call 11; (with_reducible refine (h1.out _).mono ?_); rintro e1 w2 ⟨rfl, hb2⟩; have c2 := Lib.hid (HCmd.new w2 23 k e sd d); have hb3 := Lib.hid (bt hb1 (bt hb2 (alb w2 (.cells #[.int .i64 k, .int .i64 e, .int .i64 sd, .string d] 23))))) | (go_at_call 12; (with_reducible refine (h2.out _).mono ?_); rintro e1 w4 ⟨rfl, hb4⟩; have hA := alb w4 (.cells #[.int .i64 k, .int .i64 e, .int .i64 sd, .string d] 23); have c4 := Lib.hid (HCmd.new w4 23 k e sd d); have c5 := Lib.hid (c2.out.below (bt hb4 hA)); have hb5 := Lib.hid (bt hb3.out (bt hb4 hA)); clear hA hb4) | (go_at_call 13; (with_reducible refine (h3.out _).mono ?_); rintro e1 w6 ⟨rfl, hb6⟩; have c6 := Lib.hid (c4.out.below hb6); have c7 := Lib.hid (c5.out.below hb6); have hb7 := Lib.hid (bt hb5.out hb6)) | (go_at_call 14; (with_reducible refine (h4.out _).mono ?_); rintro e1 w8 ⟨rfl, hb8⟩; obtain ⟨o0, o1, o2, o3⟩ := c6.out.below hb8; obtain ⟨p0, p1, p2, p3⟩ := c7.out.below hb8; have hb9 := Lib.hid (bt hb7.out hb8)) | (go_at_call 15; (with_reducible refine (h5.out _).mono ?_); rintro e1 w10 ⟨rfl, hb10⟩) | (go_at_call 16; (with_reducible refine (h6.out _).mono ?_); rintro e1 w11 ⟨rfl, hb11⟩))
    go_ret
    exact ⟨rfl, bt hb9.out (bt hb10 hb11)⟩
end Go.Proofs.Ytkcnpahnhmcegaa
