/-
  The statements ConsolePrints and ConsoleBack.
-/
import Derived.Test.YtkcnpahnhmcegaaConParse
import Derived.Test.YtkcnpahnhmcegaaDraw
namespace Go.Proofs.Ytkcnpahnhmcegaa
open Go.RowKit
set_option linter.unusedVariables false
set_option linter.unusedSimpArgs false

theorem cmp_same (k e sd : Int) (d : ByteArray) (W : World) : (binOp .eql 23 (.agg #[.int .i64 k, .int .i64 e, .int .i64 sd, .string d]) (.agg #[.int .i64 k, .int .i64 e, .int .i64 sd, .string d])).run Try.prog W = .ok (.bool true) W := by simp [go_sem]
theorem parse_of {s : ByteArray} {k e sd n : Int} {d : ByteArray} (h : prs s = (⟨k, e, sd, d⟩, n)) (w : World) (hs : s.size ≤ 3000) : Calls Try.prog 11 #[.string s] w fun e1 w' => e1 = .returned (.tuple #[.agg #[.int .i64 k, .int .i64 e, .int .i64 sd, .string d], .int .i64 n]) ∧ Below w.heap.size w w' := by
  have := parse_any33 s w hs
  rw [h] at this
  exact this
theorem print_of {k e sd n : Int} {d t : ByteArray} (ht : prnS ⟨k, e, sd, d⟩ = t) (hn : chkC ⟨k, e, sd, d⟩ = n) (w : World) : Calls Try.prog 7 #[.agg #[.int .i64 k, .int .i64 e, .int .i64 sd, .string d]] w fun e1 w' => e1 = .returned (.tuple #[.string t, .int .i64 n]) ∧ Below w.heap.size w w' := by
  have := print_any33 ⟨k, e, sd, d⟩ w
  rw [ht, hn] at this
  exact this
theorem rprint_of {k e sd n : Int} {d t : ByteArray} (ht : prnS ⟨k, e, sd, d⟩ = t) (hn : chkC ⟨k, e, sd, d⟩ = n) (w : World) : Calls Try.prog 8 #[.agg #[.int .i64 k, .int .i64 e, .int .i64 sd, .string d]] w fun e1 w' => e1 = .returned (.tuple #[.string t, .int .i64 n]) ∧ Below w.heap.size w w' := by
  have := rprint_any33 ⟨k, e, sd, d⟩ w
  rw [ht, hn] at this
  exact this
theorem check_of {k e sd n : Int} {d : ByteArray} (hn : chkC ⟨k, e, sd, d⟩ = n) (w : World) : Calls Try.prog 9 #[.agg #[.int .i64 k, .int .i64 e, .int .i64 sd, .string d]] w fun e1 w' => e1 = .returned (.int .i64 n) ∧ Below w.heap.size w w' := by
  have := check_any33 ⟨k, e, sd, d⟩ w
  rw [hn] at this
  exact this
theorem rcheck_of {k e sd n : Int} {d : ByteArray} (hn : chkC ⟨k, e, sd, d⟩ = n) (w : World) : Calls Try.prog 10 #[.agg #[.int .i64 k, .int .i64 e, .int .i64 sd, .string d]] w fun e1 w' => e1 = .returned (.int .i64 n) ∧ Below w.heap.size w w' := by
  have := rcheck_any33 ⟨k, e, sd, d⟩ w
  rw [hn] at this
  exact this
theorem lit1 : prs ⟨#[107, 101, 101, 112, 32, 51, 32, 98]⟩ = (⟨3, 3, 1, ⟨#[]⟩⟩, 0) := by decide +kernel
theorem lit2 : prnS ⟨4, 1, 0, ⟨#[97]⟩⟩ = ⟨#[115, 117, 112, 112, 108, 121, 32, 49, 32, 54, 49]⟩ ∧ chkC ⟨4, 1, 0, ⟨#[97]⟩⟩ = 0 := by decide +kernel
theorem works33 (w : World) : Calls Try.prog 6 #[] w fun e w' => e = .returned (.bool true) ∧ Below w.heap.size w w' := by
  have h1 := fun w => parse_of lit1 w (by decide)
  have h2 := fun w => print_of lit2.1 lit2.2 w
  have h3 := fun w => bytes_any33 ⟨#[]⟩ w (by decide)
  rw [show bytS ⟨#[]⟩ = ⟨#[45]⟩ from rfl] at h3
  have h1 := Lib.hid h1
  have h2 := Lib.hid h2
  have h3 := Lib.hid h3
  have hs := cmp_same
  go_enter Try.func6, Try.ntmps6
  go_wp2_with (first | (go_at_call 11; (with_reducible refine (h1.out _).mono ?_); rintro e1 w1 ⟨rfl, hb1⟩) | (go_at_call 7; (with_reducible refine (h2.out _).mono ?_); rintro e1 w3 ⟨rfl, hb3⟩; obtain ⟨o0, o1, o2, o3⟩ := (HCmd.new w1 23 3 3 1 ⟨#[]⟩).below hb3; have hb4 := bt hb1 (bt (alb w1 _) hb3)) | (go_at_call 15; (with_reducible refine (h3.out _).mono ?_); rintro e1 w5 ⟨rfl, hb5⟩))
  go_ret
  exact ⟨rfl, bt hb4 hb5⟩
set_option maxHeartbeats 3200000 in
theorem walk_ConsolePrints (k e sd : Int) (d : ByteArray) (u0 : (Lit.int .i64 k).wf = true) (u1 : (Lit.int .i64 e).wf = true) (u2 : (Lit.int .i64 sd).wf = true) (u3 : d.size ≤ maxLen) {w : World} :
    Calls Try.prog 3 #[.agg #[.int .i64 k, .int .i64 e, .int .i64 sd, .string d]] w fun e1 w' => e1 = .returned (.bool true) ∧ Below w.heap.size w w' := by
  clear u0 u1 u2 u3
  obtain ⟨W0, hW0⟩ : ∃ W0, w.alloc (.cells #[.int .i64 k, .int .i64 e, .int .i64 sd, .string d] 23) = W0 := ⟨_, rfl⟩
  have hc := Lib.hid (hW0 ▸ HCmd.new w 23 k e sd d)
  have hb0 : Below w.heap.size w W0 := hW0 ▸ alb w _
  obtain ⟨KB, hKB⟩ : ∃ KB, w.heap.size = KB := ⟨_, rfl⟩
  rw [hKB] at hc
  have hc' := hc.out
  obtain ⟨t, ht⟩ : ∃ t, prnS ⟨k, e, sd, d⟩ = t := ⟨_, rfl⟩
  obtain ⟨n, hn⟩ : ∃ n, chkC ⟨k, e, sd, d⟩ = n := ⟨_, rfl⟩
  have h1 := Lib.hid (fun w => print_of ht hn w)
  have h2 := Lib.hid (fun w => rprint_of ht hn w)
  have h3 := Lib.hid (fun w => check_of hn w)
  have h4 := Lib.hid (fun w => rcheck_of hn w)
  clear ht hn
  by_cases hbig : (3000 : Int) < (d.size : Int)
  · go_enter Try.func3, Try.ntmps3
    go_wp2_with (go_at_call 6; (with_reducible refine (works33 _).mono ?_); rintro e1 w1 ⟨rfl, hb1⟩; obtain ⟨o0, o1, o2, o3⟩ := hc.out.below hb1)
    go_ret
    exact ⟨rfl, hKB ▸ bt hb0 hb1⟩
  · go_enter Try.func3, Try.ntmps3
    go_wp2_with (first | (go_at_call 6; (with_reducible refine (works33 _).mono ?_); rintro e1 w1 ⟨rfl, hb1⟩; obtain ⟨o0, o1, o2, o3⟩ := hc.out.below hb1) | (go_at_call 7; (with_reducible refine (h1.out _).mono ?_); rintro e1 w2 ⟨rfl, hb2⟩; have hb3 := bt hb1 hb2; obtain ⟨p0, p1, p2, p3⟩ := hc.out.below hb3) | (go_at_call 8; (with_reducible refine (h2.out _).mono ?_); rintro e1 w4 ⟨rfl, hb4⟩; have hb5 := Lib.hid (bt hb3 hb4); have hq := hc.out.below hb5.out; obtain ⟨q0, q1, q2, q3⟩ := hq))
    have hb6 := (hb5.out).drew
    have M1 := (fun (h : HCmd w4.drew KB k e sd d) => And.intro h.c0 (And.intro h.c1 (And.intro h.c2 h.c3))) (hc.out.below hb6)
    refine wp_region_held_drew (S := (fun w' : World => w'.cell? ⟨KB, 0, none⟩ = some (.int .i64 k) ∧ w'.cell? ⟨KB, 1, none⟩ = some (.int .i64 e) ∧ w'.cell? ⟨KB, 2, none⟩ = some (.int .i64 sd) ∧ w'.cell? ⟨KB, 3, none⟩ = some (.string d))) (by kernel_rfl) ?_ (fun hHeld => ?_)
    · first | exact M1 | exact M2 | exact M3
    first | (refine tw (i := 0) (v := ?_) ?_ hHeld ?_; rotate_left; focus (intro w hSw; (try dsimp only at hSw); go_simp; (try with_reducible rfl); done)) | refine tn (i := 0) hHeld ?_
    try simp only [Act.put, List.setIfInBounds_toArray, List.set_cons_zero, List.set_cons_succ]
    first | (refine tw (i := 1) (v := ?_) ?_ hHeld ?_; rotate_left; focus (intro w hSw; (try dsimp only at hSw); go_simp; (try with_reducible rfl); done)) | refine tn (i := 1) hHeld ?_
    try simp only [Act.put, List.setIfInBounds_toArray, List.set_cons_zero, List.set_cons_succ]
    first | (refine tw (i := 2) (v := ?_) ?_ hHeld ?_; rotate_left; focus (intro w hSw; (try dsimp only at hSw); go_simp; (try with_reducible rfl); done)) | refine tn (i := 2) hHeld ?_
    try simp only [Act.put, List.setIfInBounds_toArray, List.set_cons_zero, List.set_cons_succ]
    first | (refine tw (i := 3) (v := ?_) ?_ hHeld ?_; rotate_left; focus (intro w hSw; (try dsimp only at hSw); go_simp; (try with_reducible rfl); done)) | refine tn (i := 3) hHeld ?_
    try simp only [Act.put, List.setIfInBounds_toArray, List.set_cons_zero, List.set_cons_succ]
    first | (refine tw (i := 4) (v := ?_) ?_ hHeld ?_; rotate_left; focus (intro w hSw; (try dsimp only at hSw); go_simp; (try with_reducible rfl); done)) | refine tn (i := 4) hHeld ?_
    try simp only [Act.put, List.setIfInBounds_toArray, List.set_cons_zero, List.set_cons_succ]
    first | (refine tw (i := 5) (v := ?_) ?_ hHeld ?_; rotate_left; focus (intro w hSw; (try dsimp only at hSw); go_simp; (try with_reducible rfl); done)) | refine tn (i := 5) hHeld ?_
    try simp only [Act.put, List.setIfInBounds_toArray, List.set_cons_zero, List.set_cons_succ]
    first | (refine tw (i := 6) (v := ?_) ?_ hHeld ?_; rotate_left; focus (intro w hSw; (try dsimp only at hSw); go_simp; (try with_reducible rfl); done)) | refine tn (i := 6) hHeld ?_
    try simp only [Act.put, List.setIfInBounds_toArray, List.set_cons_zero, List.set_cons_succ]
    first | (refine tw (i := 7) (v := ?_) ?_ hHeld ?_; rotate_left; focus (intro w hSw; (try dsimp only at hSw); go_simp; (try with_reducible rfl); done)) | refine tn (i := 7) hHeld ?_
    try simp only [Act.put, List.setIfInBounds_toArray, List.set_cons_zero, List.set_cons_succ]
    first | (refine tw (i := 8) (v := ?_) ?_ hHeld ?_; rotate_left; focus (intro w hSw; (try dsimp only at hSw); go_simp; (try with_reducible rfl); done)) | refine tn (i := 8) hHeld ?_
    try simp only [Act.put, List.setIfInBounds_toArray, List.set_cons_zero, List.set_cons_succ]
    first | (refine tw (i := 9) (v := ?_) ?_ hHeld ?_; rotate_left; focus (intro w hSw; (try dsimp only at hSw); go_simp; (try with_reducible rfl); done)) | refine tn (i := 9) hHeld ?_
    try simp only [Act.put, List.setIfInBounds_toArray, List.set_cons_zero, List.set_cons_succ]
    first | (refine tw (i := 11) (v := ?_) ?_ hHeld ?_; rotate_left; focus (intro w hSw; (try dsimp only at hSw); go_simp; (try with_reducible rfl); done)) | refine tn (i := 11) hHeld ?_
    try simp only [Act.put, List.setIfInBounds_toArray, List.set_cons_zero, List.set_cons_succ]
    refine call_next (i := 10) (by kernel_rfl) (by rfl) ?_
    intro o ho K hK
    simp only [List.getElem?_toArray, List.getElem?_cons_succ, List.getElem?_cons_zero, Option.some.injEq] at ho
    subst ho
    first | (fail; refine hK.out _ _ ?_ (fun hHeld => ?_)) | (go_simp; first | (with_reducible refine hK.out _ _ ?_ (fun hHeld => ?_)) | ((first | (go_at_call 9; (with_reducible refine (h3.out _).mono ?_); rintro e1 w7 ⟨rfl, hb7⟩; have hb8 := bt hb6 hb7; have M2 := (fun (h : HCmd w7 KB k e sd d) => And.intro h.c0 (And.intro h.c1 (And.intro h.c2 h.c3))) (hc.out.below hb8)) | (go_at_call 10; (with_reducible refine (h4.out _).mono ?_); rintro e1 w9 ⟨rfl, hb9⟩; have hb10 := bt hb8 hb9; have M3 := (fun (h : HCmd w9 KB k e sd d) => And.intro h.c0 (And.intro h.c1 (And.intro h.c2 h.c3))) (hc.out.below hb10))); refine hK.out _ _ ?_ (fun hHeld => ?_)))
    · first | exact M1 | exact M2 | exact M3
    clear hK K
    try simp only [Act.put, List.setIfInBounds_toArray, List.set_cons_zero, List.set_cons_succ]
    refine call_next (i := 12) (by kernel_rfl) (by rfl) ?_
    intro o ho K hK
    simp only [List.getElem?_toArray, List.getElem?_cons_succ, List.getElem?_cons_zero, Option.some.injEq] at ho
    subst ho
    first | (fail; refine hK.out _ _ ?_ (fun hHeld => ?_)) | (go_simp; first | (with_reducible refine hK.out _ _ ?_ (fun hHeld => ?_)) | ((first | (go_at_call 9; (with_reducible refine (h3.out _).mono ?_); rintro e1 w7 ⟨rfl, hb7⟩; have hb8 := bt hb6 hb7; have M2 := (fun (h : HCmd w7 KB k e sd d) => And.intro h.c0 (And.intro h.c1 (And.intro h.c2 h.c3))) (hc.out.below hb8)) | (go_at_call 10; (with_reducible refine (h4.out _).mono ?_); rintro e1 w9 ⟨rfl, hb9⟩; have hb10 := bt hb8 hb9; have M3 := (fun (h : HCmd w9 KB k e sd d) => And.intro h.c0 (And.intro h.c1 (And.intro h.c2 h.c3))) (hc.out.below hb10))); refine hK.out _ _ ?_ (fun hHeld => ?_)))
    · first | exact M1 | exact M2 | exact M3
    clear hK K
    try simp only [Act.put, List.setIfInBounds_toArray, List.set_cons_zero, List.set_cons_succ]
    first | (refine tw (i := 13) (v := ?_) ?_ hHeld ?_; rotate_left; focus (intro w hSw; (try dsimp only at hSw); go_simp; (try with_reducible rfl); done)) | refine tn (i := 13) hHeld ?_
    try simp only [Act.put, List.setIfInBounds_toArray, List.set_cons_zero, List.set_cons_succ]
    first | (refine tw (i := 14) (v := ?_) ?_ hHeld ?_; rotate_left; focus (intro w hSw; (try dsimp only at hSw); go_simp; (try with_reducible rfl); done)) | refine tn (i := 14) hHeld ?_
    try simp only [Act.put, List.setIfInBounds_toArray, List.set_cons_zero, List.set_cons_succ]
    first | (refine tw (i := 15) (v := ?_) ?_ hHeld ?_; rotate_left; focus (intro w hSw; (try dsimp only at hSw); go_simp; (try with_reducible rfl); done)) | refine tn (i := 15) hHeld ?_
    try simp only [Act.put, List.setIfInBounds_toArray, List.set_cons_zero, List.set_cons_succ]
    refine wpAnyH_done (by kernel_rfl) ?_ _
    go_wp2
    go_ret
    exact ⟨rfl, hKB ▸ bt hb0 hb10⟩
theorem chk_emp : prs ⟨#[]⟩ = (noC, 70) := by decide +kernel
set_option maxHeartbeats 6400000 in
theorem walk_ConsoleBack (k e sd : Int) (d : ByteArray) (u0 : (Lit.int .i64 k).wf = true) (u1 : (Lit.int .i64 e).wf = true) (u2 : (Lit.int .i64 sd).wf = true) (u3 : d.size ≤ maxLen) (s : ByteArray) (hs : s.size ≤ 140737488351232) {w : World} :
    Calls Try.prog 5 #[.agg #[.int .i64 k, .int .i64 e, .int .i64 sd, .string d], .string s] w fun e1 w' => e1 = .returned (.bool true) ∧ Below w.heap.size w w' := by
  clear u0 u1 u2 u3
  obtain ⟨W0, hW0⟩ : ∃ W0, w.alloc (.cells #[.int .i64 k, .int .i64 e, .int .i64 sd, .string d] 23) = W0 := ⟨_, rfl⟩
  have hc := Lib.hid (hW0 ▸ HCmd.new w 23 k e sd d)
  have hb0 : Below w.heap.size w W0 := hW0 ▸ alb w _
  obtain ⟨c0, c1, c2, c3⟩ := hc.out
  by_cases hbig : (3000 : Int) < (d.size : Int)
  · clear hs
    go_enter Try.func5, Try.ntmps5
    go_wp2_with (go_at_call 6; (with_reducible refine (works33 _).mono ?_); rintro e1 w1 ⟨rfl, hb1⟩; obtain ⟨o0, o1, o2, o3⟩ := hc.out.below hb1)
    go_ret
    exact ⟨rfl, bt hb0 hb1⟩
  · by_cases hbig2 : (3000 : Int) < (s.size : Int)
    · clear hs
      go_enter Try.func5, Try.ntmps5
      go_wp2_with (go_at_call 6; (with_reducible refine (works33 _).mono ?_); rintro e1 w1 ⟨rfl, hb1⟩; obtain ⟨o0, o1, o2, o3⟩ := hc.out.below hb1)
      go_ret
      exact ⟨rfl, bt hb0 hb1⟩
    · obtain ⟨t, ht⟩ : ∃ t, prnS ⟨k, e, sd, d⟩ = t := ⟨_, rfl⟩
      obtain ⟨n, hn⟩ : ∃ n, chkC ⟨k, e, sd, d⟩ = n := ⟨_, rfl⟩
      have htz : t.size ≤ 3000 := by
        rw [← ht]; unfold prnS
        by_cases h0 : chkC ⟨k, e, sd, d⟩ = 0
        · rw [if_pos h0]; have := lin_size h0; omega
        · rw [if_neg h0]; decide
      have h1 := Lib.hid (fun w => print_of ht hn w)
      obtain ⟨⟨⟨k2, e2, sd2, d2⟩, n2⟩, hp2⟩ : ∃ x, prs s = x := ⟨_, rfl⟩
      have h3 := Lib.hid (fun w => parse_of hp2 w (by omega))
      obtain ⟨t2, ht2⟩ : ∃ t, prnS ⟨k2, e2, sd2, d2⟩ = t := ⟨_, rfl⟩
      obtain ⟨n3, hn3⟩ : ∃ n, chkC ⟨k2, e2, sd2, d2⟩ = n := ⟨_, rfl⟩
      have h4 := Lib.hid (fun w => print_of ht2 hn3 w)
      have h5 := Lib.hid (fun w => bytes_any33 s w (by omega))
      have hbz : (bytS s).size ≤ 6000 := by
        unfold bytS; split
        · show 1 ≤ 6000; omega
        · rw [hexS_size]; omega
      have h6 : Hid (∀ w, Calls Try.prog 13 #[.string (bytS s)] w fun e w' => e = .returned (.tuple #[.string s, .int .i64 0]) ∧ Below w.heap.size w w') := fun w => by
        have := unbytes_any (bytS s) w (by omega)
        rw [(ub_byt s).1, (ub_byt s).2] at this
        exact this
      have hx2 : n2 = 0 → n3 = 0 ∧ t2 = s := fun h => by
        have hh := prn_prs (s := s) (by rw [hp2]; exact h)
        rw [hp2] at hh
        obtain ⟨a, b⟩ := hh
        refine ⟨hn3 ▸ a, ?_⟩
        rw [← ht2]; unfold prnS; rw [if_pos a]; exact b
      have hx2 := Lib.hid hx2
      have hss := cmp_same
      generalize bytS s = bs at *
      by_cases h0 : n = 0
      · subst h0
        have hp1 : prs t = (⟨k, e, sd, d⟩, 0) := by
          rw [← ht]; unfold prnS; rw [if_pos hn]; exact prs_prn hn
        have h2 := Lib.hid (fun w => parse_of hp1 w htz)
        clear ht hn hp2 ht2 hn3 hp1 hs hbz
        by_cases hz : n2 = 0
        · obtain ⟨rfl, rfl⟩ := hx2.out hz
          subst hz
          go_enter Try.func5, Try.ntmps5
          go_wp2_with (first | (go_at_call 6; (with_reducible refine (works33 _).mono ?_); rintro e1 w1 ⟨rfl, hb1⟩; obtain ⟨o0, o1, o2, o3⟩ := hc.out.below hb1) | (go_at_call 7; (with_reducible refine (h1.out _).mono ?_); rintro e1 w2 ⟨rfl, hb2⟩; have hb3 := Lib.hid (bt hb1 hb2)) | (go_at_call 11; (with_reducible refine (h2.out _).mono ?_); rintro e1 w4 ⟨rfl, hb4⟩; have hA := alb w4 (.cells #[.int .i64 k, .int .i64 e, .int .i64 sd, .string d] 23); have x4 := Lib.hid (HCmd.new w4 23 k e sd d); have hb5 := Lib.hid (bt hb3.out (bt hb4 hA))) | (go_at_call 11; (with_reducible refine (h3.out _).mono ?_); rintro e1 w6 ⟨rfl, hb6⟩; have hA2 := alb w6 (.cells #[.int .i64 k2, .int .i64 e2, .int .i64 sd2, .string d2] 23); have y6 := HCmd.new w6 23 k2 e2 sd2 d2; have x7 := Lib.hid (x4.out.below (bt hb6 hA2)); have hb7 := Lib.hid (bt hb5.out (bt hb6 hA2)); obtain ⟨z0, z1, z2, z3⟩ := y6) | (go_at_call 7; (with_reducible refine (h4.out _).mono ?_); rintro e1 w8 ⟨rfl, hb8⟩; have x9 := Lib.hid (x7.out.below hb8); have hb9 := Lib.hid (bt hb7.out hb8)) | (go_at_call 15; (with_reducible refine (h5.out _).mono ?_); rintro e1 w10 ⟨rfl, hb10⟩; have x10 := Lib.hid (x9.out.below hb10); have hb11 := Lib.hid (bt hb9.out hb10)) | (go_at_call 13; (with_reducible refine (h6.out _).mono ?_); rintro e1 w12 ⟨rfl, hb12⟩; have hb13 := bt hb11.out hb12; obtain ⟨p0, p1, p2, p3⟩ := x10.out.below hb12; obtain ⟨q0, q1, q2, q3⟩ := hc.out.below hb13))
          go_ret
          exact ⟨rfl, bt hb0 hb13⟩
        · have hz2 : (n2 == 0) = false := beq_eq_false_iff_ne.2 hz
          go_enter Try.func5, Try.ntmps5
          go_wp2_with (first | (go_at_call 6; (with_reducible refine (works33 _).mono ?_); rintro e1 w1 ⟨rfl, hb1⟩; obtain ⟨o0, o1, o2, o3⟩ := hc.out.below hb1) | (go_at_call 7; (with_reducible refine (h1.out _).mono ?_); rintro e1 w2 ⟨rfl, hb2⟩; have hb3 := Lib.hid (bt hb1 hb2)) | (go_at_call 11; (with_reducible refine (h2.out _).mono ?_); rintro e1 w4 ⟨rfl, hb4⟩; have hA := alb w4 (.cells #[.int .i64 k, .int .i64 e, .int .i64 sd, .string d] 23); have x4 := Lib.hid (HCmd.new w4 23 k e sd d); have hb5 := Lib.hid (bt hb3.out (bt hb4 hA))) | (go_at_call 11; (with_reducible refine (h3.out _).mono ?_); rintro e1 w6 ⟨rfl, hb6⟩; have hA2 := alb w6 (.cells #[.int .i64 k2, .int .i64 e2, .int .i64 sd2, .string d2] 23); have y6 := HCmd.new w6 23 k2 e2 sd2 d2; have x7 := Lib.hid (x4.out.below (bt hb6 hA2)); have hb7 := Lib.hid (bt hb5.out (bt hb6 hA2)); obtain ⟨z0, z1, z2, z3⟩ := y6) | (go_at_call 7; (with_reducible refine (h4.out _).mono ?_); rintro e1 w8 ⟨rfl, hb8⟩; have x9 := Lib.hid (x7.out.below hb8); have hb9 := Lib.hid (bt hb7.out hb8)) | (go_at_call 15; (with_reducible refine (h5.out _).mono ?_); rintro e1 w10 ⟨rfl, hb10⟩; have x10 := Lib.hid (x9.out.below hb10); have hb11 := Lib.hid (bt hb9.out hb10)) | (go_at_call 13; (with_reducible refine (h6.out _).mono ?_); rintro e1 w12 ⟨rfl, hb12⟩; have hb13 := bt hb11.out hb12; obtain ⟨p0, p1, p2, p3⟩ := x10.out.below hb12; obtain ⟨q0, q1, q2, q3⟩ := hc.out.below hb13))
          go_ret
          exact ⟨rfl, bt hb0 hb13⟩
      · obtain ⟨⟨⟨k4, e4, sd4, d4⟩, n4⟩, hp4⟩ : ∃ x, prs t = x := ⟨_, rfl⟩
        have h2 := Lib.hid (fun w => parse_of hp4 w htz)
        have h02 : (n == 0) = false := beq_eq_false_iff_ne.2 h0
        clear ht hn hp2 ht2 hn3 hp4 hs hbz
        by_cases hz : n2 = 0
        · obtain ⟨rfl, rfl⟩ := hx2.out hz
          subst hz
          go_enter Try.func5, Try.ntmps5
          go_wp2_with (first | (go_at_call 6; (with_reducible refine (works33 _).mono ?_); rintro e1 w1 ⟨rfl, hb1⟩; obtain ⟨o0, o1, o2, o3⟩ := hc.out.below hb1) | (go_at_call 7; (with_reducible refine (h1.out _).mono ?_); rintro e1 w2 ⟨rfl, hb2⟩; have hb3 := Lib.hid (bt hb1 hb2)) | (go_at_call 11; (with_reducible refine (h2.out _).mono ?_); rintro e1 w4 ⟨rfl, hb4⟩; have hA := alb w4 (.cells #[.int .i64 k4, .int .i64 e4, .int .i64 sd4, .string d4] 23); have x4 := Lib.hid (HCmd.new w4 23 k4 e4 sd4 d4); have hb5 := Lib.hid (bt hb3.out (bt hb4 hA))) | (go_at_call 11; (with_reducible refine (h3.out _).mono ?_); rintro e1 w6 ⟨rfl, hb6⟩; have hA2 := alb w6 (.cells #[.int .i64 k2, .int .i64 e2, .int .i64 sd2, .string d2] 23); have y6 := HCmd.new w6 23 k2 e2 sd2 d2; have x7 := Lib.hid (x4.out.below (bt hb6 hA2)); have hb7 := Lib.hid (bt hb5.out (bt hb6 hA2)); obtain ⟨z0, z1, z2, z3⟩ := y6) | (go_at_call 7; (with_reducible refine (h4.out _).mono ?_); rintro e1 w8 ⟨rfl, hb8⟩; have x9 := Lib.hid (x7.out.below hb8); have hb9 := Lib.hid (bt hb7.out hb8)) | (go_at_call 15; (with_reducible refine (h5.out _).mono ?_); rintro e1 w10 ⟨rfl, hb10⟩; have x10 := Lib.hid (x9.out.below hb10); have hb11 := Lib.hid (bt hb9.out hb10)) | (go_at_call 13; (with_reducible refine (h6.out _).mono ?_); rintro e1 w12 ⟨rfl, hb12⟩; have hb13 := bt hb11.out hb12; obtain ⟨p0, p1, p2, p3⟩ := x10.out.below hb12; obtain ⟨q0, q1, q2, q3⟩ := hc.out.below hb13))
          go_ret
          exact ⟨rfl, bt hb0 hb13⟩
        · have hz2 : (n2 == 0) = false := beq_eq_false_iff_ne.2 hz
          go_enter Try.func5, Try.ntmps5
          go_wp2_with (first | (go_at_call 6; (with_reducible refine (works33 _).mono ?_); rintro e1 w1 ⟨rfl, hb1⟩; obtain ⟨o0, o1, o2, o3⟩ := hc.out.below hb1) | (go_at_call 7; (with_reducible refine (h1.out _).mono ?_); rintro e1 w2 ⟨rfl, hb2⟩; have hb3 := Lib.hid (bt hb1 hb2)) | (go_at_call 11; (with_reducible refine (h2.out _).mono ?_); rintro e1 w4 ⟨rfl, hb4⟩; have hA := alb w4 (.cells #[.int .i64 k4, .int .i64 e4, .int .i64 sd4, .string d4] 23); have x4 := Lib.hid (HCmd.new w4 23 k4 e4 sd4 d4); have hb5 := Lib.hid (bt hb3.out (bt hb4 hA))) | (go_at_call 11; (with_reducible refine (h3.out _).mono ?_); rintro e1 w6 ⟨rfl, hb6⟩; have hA2 := alb w6 (.cells #[.int .i64 k2, .int .i64 e2, .int .i64 sd2, .string d2] 23); have y6 := HCmd.new w6 23 k2 e2 sd2 d2; have x7 := Lib.hid (x4.out.below (bt hb6 hA2)); have hb7 := Lib.hid (bt hb5.out (bt hb6 hA2)); obtain ⟨z0, z1, z2, z3⟩ := y6) | (go_at_call 7; (with_reducible refine (h4.out _).mono ?_); rintro e1 w8 ⟨rfl, hb8⟩; have x9 := Lib.hid (x7.out.below hb8); have hb9 := Lib.hid (bt hb7.out hb8)) | (go_at_call 15; (with_reducible refine (h5.out _).mono ?_); rintro e1 w10 ⟨rfl, hb10⟩; have x10 := Lib.hid (x9.out.below hb10); have hb11 := Lib.hid (bt hb9.out hb10)) | (go_at_call 13; (with_reducible refine (h6.out _).mono ?_); rintro e1 w12 ⟨rfl, hb12⟩; have hb13 := bt hb11.out hb12; obtain ⟨p0, p1, p2, p3⟩ := x10.out.below hb12; obtain ⟨q0, q1, q2, q3⟩ := hc.out.below hb13))
          go_ret
          exact ⟨rfl, bt hb0 hb13⟩
end Go.Proofs.Ytkcnpahnhmcegaa
