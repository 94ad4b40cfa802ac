/-
  Rules in writing (chapter 42): the law's walk.
-/
import Derived.Test.YtnflnaalpeeciaaDoorPol12
namespace Go.Proofs.YtnflnaalpeeciaaDoor
open Go.RowKit
set_option linter.unusedVariables false
set_option linter.unusedSimpArgs false
set_option maxRecDepth 20000

theorem rl_same (a b c : Int) (W : World) : (binOp .eql 29 (.agg #[.int .i64 a, .int .i64 b, .int .i64 c]) (.agg #[.int .i64 a, .int .i64 b, .int .i64 c])).run Tryd.prog W = .ok (.bool true) W := by simp [go_sem]
/-- four rules in boxes -/
def F4 (W : World) (A B C D : Nat) (k a b xk xa xb zk za zb : Int) : Prop := HC3 W A k a b ∧ HC3 W B xk xa xb ∧ HC3 W C xk xa xb ∧ HC3 W D zk za zb
theorem F4.below {W W' : World} {A B C D : Nat} {k a b xk xa xb zk za zb : Int} (h : F4 W A B C D k a b xk xa xb zk za zb) (hb : Below W.heap.size W W') : F4 W' A B C D k a b xk xa xb zk za zb := ⟨h.1.below hb, h.2.1.below hb, h.2.2.1.below hb, h.2.2.2.below hb⟩
theorem HRl.hc {W : World} {K : Nat} {k a b : Int} (h : HRl W K k a b) : HC3 W K k a b := ⟨h.c0, h.c1, h.c2⟩
def PPX (s : ByteArray) (w : World) (e : Ending) (w' : World) : Prop := ∃ (k a b er : Int), PR3 s ⟨k, a, b⟩ er ∧ e = .returned (.tuple #[.agg #[.int .i64 k, .int .i64 a, .int .i64 b], .int .i64 er]) ∧ Below w.heap.size w w'
theorem PPE.x {s : ByteArray} {w : World} {e : Ending} {w' : World} (h : PPE s w e w') : PPX s w e w' := by
  obtain ⟨⟨k, a, b⟩, er, h1, h2, h3⟩ := h
  exact ⟨k, a, b, er, h1, h2, h3⟩
theorem parse_x (s : ByteArray) (w : World) (hm : ML w) (hs : s.size ≤ 140737488355328) : Calls Tryd.prog 18 #[.string s] w (PPX s w) := (parse_any s w hm hs).mono fun _ _ h => h.x
theorem rparse_x (s : ByteArray) (w : World) (hs : s.size ≤ 140737488355328) : Calls Tryd.prog 19 #[.string s] w (PPX s w) := (rparse_any s w hs).mono fun _ _ h => h.x
theorem prnS_size (r : Rl) : (prnS r).size ≤ 140737488355328 := by
  unfold prnS
  split
  · have := rlS_size r; omega
  · decide
set_option maxHeartbeats 6400000 in
theorem walk_PolicyWrites (k a b : Int) (hk : (Lit.int .i64 k).wf = true) (ha : (Lit.int .i64 a).wf = true) (hb : (Lit.int .i64 b).wf = true) (s : ByteArray) (hs0 : s.size ≤ 140737488351232) {w : World} (hm : ML w) :
    Calls Tryd.prog 5 #[.agg #[.int .i64 k, .int .i64 a, .int .i64 b], .string s] w fun e w' => e = .returned (.bool true) ∧ Below w.heap.size w w' := by
  have hs : s.size ≤ 140737488355328 := by omega
  have hE : ∀ W, Below w.heap.size w W → (fun (e : Ending) (w' : World) => e = .returned (.bool true) ∧ Below w.heap.size w w') (.returned (.bool true)) W := fun W h => ⟨rfl, h⟩
  generalize (fun (e : Ending) (w' : World) => e = .returned (.bool true) ∧ Below w.heap.size w w') = Pst at *
  replace hE := Lib.hid hE
  clear hk ha hb
  obtain ⟨W0, hW0⟩ : ∃ W0, w.alloc (.cells #[.int .i64 k, .int .i64 a, .int .i64 b] 29) = W0 := ⟨_, rfl⟩
  have hF := Lib.hid (hW0 ▸ (HRl.new w 29 k a b).hc)
  have hbx := Lib.hid (hW0 ▸ alb w _ : Below w.heap.size w W0)
  have hm1 := Lib.hid (hm.below hbx.out)
  have hwk := Lib.hid (fun W (h : ML W) => works_any W h)
  have hPr := fun W => print_any ⟨k, a, b⟩ W
  have hRp := fun W => rprint_any ⟨k, a, b⟩ W
  have hCk := fun W => check_any ⟨k, a, b⟩ W
  have hRk := fun W => rcheck_any ⟨k, a, b⟩ W
  have hZs := prnS_size ⟨k, a, b⟩
  have hZ0 := fun W h => parse_x (prnS ⟨k, a, b⟩) W h hZs
  have hZ1 : chkR ⟨k, a, b⟩ = 0 → ∀ r e, PR3 (prnS ⟨k, a, b⟩) r e → r = ⟨k, a, b⟩ ∧ e = 0 := by
    intro h r e h1
    have h2 : PR3 (prnS ⟨k, a, b⟩) ⟨k, a, b⟩ 0 := by
      unfold prnS
      rw [if_pos h]
      exact .inr (.inl ⟨by have := rlS_size ⟨k, a, b⟩; omega, h, rfl, rfl⟩)
    exact PR3_fun h1 h2
  unfold prnV rlV at hPr hRp
  unfold rlV at hCk hRk
  simp only at hPr hRp hCk hRk
  generalize prnS ⟨k, a, b⟩ = t at *
  generalize chkR ⟨k, a, b⟩ = c at *
  replace hPr := Lib.hid hPr
  replace hRp := Lib.hid hRp
  replace hCk := Lib.hid hCk
  replace hRk := Lib.hid hRk
  replace hZ0 := Lib.hid hZ0
  replace hZ1 := Lib.hid hZ1
  have hrs := rl_same
  obtain ⟨c0, c1, c2⟩ := hF.out
  by_cases hbig : 3000 < s.size
  · have hd : decide ((3000 : Int) < (s.size : Int)) = true := decide_eq_true (by omega)
    have hd' : decide (3000 < s.size) = true := decide_eq_true hbig
    clear hPr hRp hCk hRk hZ0 hZ1
    go_enter Tryd.func5, Tryd.ntmps5
    go_wp2_with (go_at_call 6; (with_reducible refine (hwk.out _ hm1.out).mono ?_); rintro e1 w1 ⟨rfl, hA⟩; replace hbx := Lib.hid (bt hbx.out hA))
    exact hE.out _ hbx.out
  · have hd : decide ((3000 : Int) < (s.size : Int)) = false := decide_eq_false (by omega)
    have hd' : decide (3000 < s.size) = false := decide_eq_false hbig
    go_enter Tryd.func5, Tryd.ntmps5
    go_wp2_with (first | (go_at_call 6; (with_reducible refine (hwk.out _ hm1.out).mono ?_); rintro e1 w1 ⟨rfl, hA⟩; replace hbx := Lib.hid (bt hbx.out hA); replace hF := Lib.hid (hF.out.below hA); replace hm1 := Lib.hid (hm1.out.below hA); obtain ⟨c0, c1, c2⟩ := hF.out; clear hA) | (go_at_call 16; (with_reducible refine (hPr.out _).mono ?_); rintro e2 w2 ⟨rfl, hA⟩; replace hbx := Lib.hid (bt hbx.out hA); replace hF := Lib.hid (hF.out.below hA); replace hm1 := Lib.hid (hm1.out.below hA); obtain ⟨c0, c1, c2⟩ := hF.out; clear hA) | (go_at_call 17; (with_reducible refine (hRp.out _).mono ?_); rintro e3 w3 ⟨rfl, hA⟩; replace hbx := Lib.hid (bt hbx.out hA); replace hF := Lib.hid (hF.out.below hA); replace hm1 := Lib.hid (hm1.out.below hA); obtain ⟨c0, c1, c2⟩ := hF.out; clear hA) | (go_at_call 18; (with_reducible refine (parse_x s _ hm1.out hs).mono ?_); rintro e4 w4 ⟨xk, xa, xb, er, hPR, rfl, hA⟩; replace hPR := Lib.hid hPR; replace hbx := Lib.hid (bt hbx.out hA); replace hF := Lib.hid (hF.out.below hA); replace hm1 := Lib.hid (hm1.out.below hA); obtain ⟨c0, c1, c2⟩ := hF.out; clear hA; have hA := alb w4 (.cells #[.int .i64 xk, .int .i64 xa, .int .i64 xb] 29); replace hbx := Lib.hid (bt hbx.out hA); replace hF := Lib.hid (hF.out.below hA); replace hm1 := Lib.hid (hm1.out.below hA); obtain ⟨c0, c1, c2⟩ := hF.out; have hX := Lib.hid (HRl.new w4 29 xk xa xb).hc; clear hA) | (go_at_call 19; (with_reducible refine (rparse_x s _ hs).mono ?_); rintro e5 w5 ⟨yk, ya, yb, er2, hPR2, rfl, hA⟩; obtain ⟨hxy, rfl⟩ := PR3_fun hPR.out hPR2; obtain ⟨rfl, rfl, rfl⟩ := Rl.mk.inj hxy; clear hxy; clear hPR2; replace hbx := Lib.hid (bt hbx.out hA); replace hF := Lib.hid (hF.out.below hA); replace hm1 := Lib.hid (hm1.out.below hA); obtain ⟨c0, c1, c2⟩ := hF.out; replace hX := Lib.hid (hX.out.below hA); clear hA; have hA := alb w5 (.cells #[.int .i64 xk, .int .i64 xa, .int .i64 xb] 29); replace hbx := Lib.hid (bt hbx.out hA); replace hF := Lib.hid (hF.out.below hA); replace hm1 := Lib.hid (hm1.out.below hA); obtain ⟨c0, c1, c2⟩ := hF.out; replace hX := Lib.hid (hX.out.below hA); have hY := Lib.hid (HRl.new w5 29 xk xa xb).hc; clear hA))
    clear hPr hRp
    by_cases hc : c = 0
    · subst hc
      go_wp2_with (go_at_call 18; (with_reducible refine (hZ0.out _ hm1.out).mono ?_); rintro e6 w6 ⟨zk, za, zb, ez, hPZ, rfl, hA⟩; obtain ⟨hz, rfl⟩ := hZ1.out rfl _ _ hPZ; obtain ⟨rfl, rfl, rfl⟩ := Rl.mk.inj hz; clear hz hPZ; replace hbx := Lib.hid (bt hbx.out hA); replace hF := Lib.hid (hF.out.below hA); replace hm1 := Lib.hid (hm1.out.below hA); obtain ⟨c0, c1, c2⟩ := hF.out; replace hX := Lib.hid (hX.out.below hA); replace hY := Lib.hid (hY.out.below hA); clear hA; have hA := alb w6 (.cells #[.int .i64 zk, .int .i64 za, .int .i64 zb] 29); replace hbx := Lib.hid (bt hbx.out hA); replace hF := Lib.hid (hF.out.below hA); replace hm1 := Lib.hid (hm1.out.below hA); obtain ⟨c0, c1, c2⟩ := hF.out; replace hX := Lib.hid (hX.out.below hA); replace hY := Lib.hid (hY.out.below hA); have hZ := Lib.hid (HRl.new w6 29 zk za zb).hc; clear hA)
      have hr2 : Hid (F4 (w6.alloc (.cells #[.int .i64 zk, .int .i64 za, .int .i64 zb] 29)).drew w.heap.size w4.heap.size w5.heap.size w6.heap.size zk za zb xk xa xb zk za zb) := F4.below ⟨hF.out, hX.out, hY.out, hZ.out⟩ (bdrw _)
      replace hbx := Lib.hid (bt hbx.out (bdrw _))
      clear hF hX hY hZ c0 c1 c2
      refine wp_region_held_drew (S := (fun w' => F4 w' w.heap.size w4.heap.size w5.heap.size w6.heap.size zk za zb xk xa xb zk za zb)) (by kernel_rfl) ?_ (fun hHeld => ?_)
      · first | with_reducible exact hr2.out
      first | (refine tw (i := 0) (v := ?_) ?_ hHeld ?_; rotate_left; focus (intro w hSw; (try dsimp only at hSw); (try simp only [F4, HC3] at hSw); go_simp; (try with_reducible rfl); done)) | refine tn (i := 0) hHeld ?_
      try simp only [Act.put, List.setIfInBounds_toArray, List.set_cons_zero, List.set_cons_succ]
      first | (refine tw (i := 1) (v := ?_) ?_ hHeld ?_; rotate_left; focus (intro w hSw; (try dsimp only at hSw); (try simp only [F4, HC3] at hSw); go_simp; (try with_reducible rfl); done)) | refine tn (i := 1) hHeld ?_
      try simp only [Act.put, List.setIfInBounds_toArray, List.set_cons_zero, List.set_cons_succ]
      first | (refine tw (i := 2) (v := ?_) ?_ hHeld ?_; rotate_left; focus (intro w hSw; (try dsimp only at hSw); (try simp only [F4, HC3] at hSw); go_simp; (try with_reducible rfl); done)) | refine tn (i := 2) hHeld ?_
      try simp only [Act.put, List.setIfInBounds_toArray, List.set_cons_zero, List.set_cons_succ]
      first | (refine tw (i := 3) (v := ?_) ?_ hHeld ?_; rotate_left; focus (intro w hSw; (try dsimp only at hSw); (try simp only [F4, HC3] at hSw); go_simp; (try with_reducible rfl); done)) | refine tn (i := 3) hHeld ?_
      try simp only [Act.put, List.setIfInBounds_toArray, List.set_cons_zero, List.set_cons_succ]
      first | (refine tw (i := 4) (v := ?_) ?_ hHeld ?_; rotate_left; focus (intro w hSw; (try dsimp only at hSw); (try simp only [F4, HC3] at hSw); go_simp; (try with_reducible rfl); done)) | refine tn (i := 4) hHeld ?_
      try simp only [Act.put, List.setIfInBounds_toArray, List.set_cons_zero, List.set_cons_succ]
      first | (refine tw (i := 5) (v := ?_) ?_ hHeld ?_; rotate_left; focus (intro w hSw; (try dsimp only at hSw); (try simp only [F4, HC3] at hSw); go_simp; (try with_reducible rfl); done)) | refine tn (i := 5) hHeld ?_
      try simp only [Act.put, List.setIfInBounds_toArray, List.set_cons_zero, List.set_cons_succ]
      first | (refine tw (i := 6) (v := ?_) ?_ hHeld ?_; rotate_left; focus (intro w hSw; (try dsimp only at hSw); (try simp only [F4, HC3] at hSw); go_simp; (try with_reducible rfl); done)) | refine tn (i := 6) hHeld ?_
      try simp only [Act.put, List.setIfInBounds_toArray, List.set_cons_zero, List.set_cons_succ]
      first | (refine tw (i := 7) (v := ?_) ?_ hHeld ?_; rotate_left; focus (intro w hSw; (try dsimp only at hSw); (try simp only [F4, HC3] at hSw); go_simp; (try with_reducible rfl); done)) | refine tn (i := 7) hHeld ?_
      try simp only [Act.put, List.setIfInBounds_toArray, List.set_cons_zero, List.set_cons_succ]
      first | (refine tw (i := 8) (v := ?_) ?_ hHeld ?_; rotate_left; focus (intro w hSw; (try dsimp only at hSw); (try simp only [F4, HC3] at hSw); go_simp; (try with_reducible rfl); done)) | refine tn (i := 8) hHeld ?_
      try simp only [Act.put, List.setIfInBounds_toArray, List.set_cons_zero, List.set_cons_succ]
      first | (refine tw (i := 9) (v := ?_) ?_ hHeld ?_; rotate_left; focus (intro w hSw; (try dsimp only at hSw); (try simp only [F4, HC3] at hSw); go_simp; (try with_reducible rfl); done)) | refine tn (i := 9) hHeld ?_
      try simp only [Act.put, List.setIfInBounds_toArray, List.set_cons_zero, List.set_cons_succ]
      first | (refine tw (i := 11) (v := ?_) ?_ hHeld ?_; rotate_left; focus (intro w hSw; (try dsimp only at hSw); (try simp only [F4, HC3] at hSw); go_simp; (try with_reducible rfl); done)) | refine tn (i := 11) hHeld ?_
      try simp only [Act.put, List.setIfInBounds_toArray, List.set_cons_zero, List.set_cons_succ]
      refine call_next (i := 10) (by kernel_rfl) (by rfl) ?_
      intro o ho K hK
      simp only [List.getElem?_toArray, List.getElem?_cons_succ, List.getElem?_cons_zero, Option.some.injEq] at ho
      subst ho
      first | (fail; refine hK.out _ _ ?_ (fun hHeld => ?_)) | (go_simp; first | (with_reducible refine hK.out _ _ ?_ (fun hHeld => ?_)) | ((first | (go_at_call 20; (with_reducible refine (hCk.out _).mono ?_); rintro e7 w7 ⟨rfl, hA⟩; replace hr2 := Lib.hid (hr2.out.below hA); replace hbx := Lib.hid (bt hbx.out hA); clear hA) | (go_at_call 21; (with_reducible refine (hRk.out _).mono ?_); rintro e7 w7 ⟨rfl, hA⟩; replace hr2 := Lib.hid (hr2.out.below hA); replace hbx := Lib.hid (bt hbx.out hA); clear hA)); refine hK.out _ _ ?_ (fun hHeld => ?_)))
      · first | with_reducible exact hr2.out
      clear hK K
      try simp only [Act.put, List.setIfInBounds_toArray, List.set_cons_zero, List.set_cons_succ]
      refine call_next (i := 12) (by kernel_rfl) (by rfl) ?_
      intro o ho K hK
      simp only [List.getElem?_toArray, List.getElem?_cons_succ, List.getElem?_cons_zero, Option.some.injEq] at ho
      subst ho
      first | (fail; refine hK.out _ _ ?_ (fun hHeld => ?_)) | (go_simp; first | (with_reducible refine hK.out _ _ ?_ (fun hHeld => ?_)) | ((first | (go_at_call 20; (with_reducible refine (hCk.out _).mono ?_); rintro e7 w7 ⟨rfl, hA⟩; replace hr2 := Lib.hid (hr2.out.below hA); replace hbx := Lib.hid (bt hbx.out hA); clear hA) | (go_at_call 21; (with_reducible refine (hRk.out _).mono ?_); rintro e7 w7 ⟨rfl, hA⟩; replace hr2 := Lib.hid (hr2.out.below hA); replace hbx := Lib.hid (bt hbx.out hA); clear hA)); refine hK.out _ _ ?_ (fun hHeld => ?_)))
      · first | with_reducible exact hr2.out
      clear hK K
      try simp only [Act.put, List.setIfInBounds_toArray, List.set_cons_zero, List.set_cons_succ]
      first | (refine tw (i := 13) (v := ?_) ?_ hHeld ?_; rotate_left; focus (intro w hSw; (try dsimp only at hSw); (try simp only [F4, HC3] at hSw); go_simp; (try with_reducible rfl); done)) | refine tn (i := 13) hHeld ?_
      try simp only [Act.put, List.setIfInBounds_toArray, List.set_cons_zero, List.set_cons_succ]
      first | (refine tw (i := 14) (v := ?_) ?_ hHeld ?_; rotate_left; focus (intro w hSw; (try dsimp only at hSw); (try simp only [F4, HC3] at hSw); go_simp; (try with_reducible rfl); done)) | refine tn (i := 14) hHeld ?_
      try simp only [Act.put, List.setIfInBounds_toArray, List.set_cons_zero, List.set_cons_succ]
      first | (refine tw (i := 15) (v := ?_) ?_ hHeld ?_; rotate_left; focus (intro w hSw; (try dsimp only at hSw); (try simp only [F4, HC3] at hSw); go_simp; (try with_reducible rfl); done)) | refine tn (i := 15) hHeld ?_
      try simp only [Act.put, List.setIfInBounds_toArray, List.set_cons_zero, List.set_cons_succ]
      first | (refine tw (i := 16) (v := ?_) ?_ hHeld ?_; rotate_left; focus (intro w hSw; (try dsimp only at hSw); (try simp only [F4, HC3] at hSw); go_simp; (try with_reducible rfl); done)) | refine tn (i := 16) hHeld ?_
      try simp only [Act.put, List.setIfInBounds_toArray, List.set_cons_zero, List.set_cons_succ]
      first | (refine tw (i := 17) (v := ?_) ?_ hHeld ?_; rotate_left; focus (intro w hSw; (try dsimp only at hSw); (try simp only [F4, HC3] at hSw); go_simp; (try with_reducible rfl); done)) | refine tn (i := 17) hHeld ?_
      try simp only [Act.put, List.setIfInBounds_toArray, List.set_cons_zero, List.set_cons_succ]
      first | (refine tw (i := 18) (v := ?_) ?_ hHeld ?_; rotate_left; focus (intro w hSw; (try dsimp only at hSw); (try simp only [F4, HC3] at hSw); go_simp; (try with_reducible rfl); done)) | refine tn (i := 18) hHeld ?_
      try simp only [Act.put, List.setIfInBounds_toArray, List.set_cons_zero, List.set_cons_succ]
      first | (refine tw (i := 19) (v := ?_) ?_ hHeld ?_; rotate_left; focus (intro w hSw; (try dsimp only at hSw); (try simp only [F4, HC3] at hSw); go_simp; (try with_reducible rfl); done)) | refine tn (i := 19) hHeld ?_
      try simp only [Act.put, List.setIfInBounds_toArray, List.set_cons_zero, List.set_cons_succ]
      first | (refine tw (i := 20) (v := ?_) ?_ hHeld ?_; rotate_left; focus (intro w hSw; (try dsimp only at hSw); (try simp only [F4, HC3] at hSw); go_simp; (try with_reducible rfl); done)) | refine tn (i := 20) hHeld ?_
      try simp only [Act.put, List.setIfInBounds_toArray, List.set_cons_zero, List.set_cons_succ]
      first | (refine tw (i := 21) (v := ?_) ?_ hHeld ?_; rotate_left; focus (intro w hSw; (try dsimp only at hSw); (try simp only [F4, HC3] at hSw); go_simp; (try with_reducible rfl); done)) | refine tn (i := 21) hHeld ?_
      try simp only [Act.put, List.setIfInBounds_toArray, List.set_cons_zero, List.set_cons_succ]
      first | (refine tw (i := 22) (v := ?_) ?_ hHeld ?_; rotate_left; focus (intro w hSw; (try dsimp only at hSw); (try simp only [F4, HC3] at hSw); go_simp; (try with_reducible rfl); done)) | refine tn (i := 22) hHeld ?_
      try simp only [Act.put, List.setIfInBounds_toArray, List.set_cons_zero, List.set_cons_succ]
      first | (refine tw (i := 23) (v := ?_) ?_ hHeld ?_; rotate_left; focus (intro w hSw; (try dsimp only at hSw); (try simp only [F4, HC3] at hSw); go_simp; (try with_reducible rfl); done)) | refine tn (i := 23) hHeld ?_
      try simp only [Act.put, List.setIfInBounds_toArray, List.set_cons_zero, List.set_cons_succ]
      first | (refine tw (i := 24) (v := ?_) ?_ hHeld ?_; rotate_left; focus (intro w hSw; (try dsimp only at hSw); (try simp only [F4, HC3] at hSw); go_simp; (try with_reducible rfl); done)) | refine tn (i := 24) hHeld ?_
      try simp only [Act.put, List.setIfInBounds_toArray, List.set_cons_zero, List.set_cons_succ]
      first | (refine tw (i := 25) (v := ?_) ?_ hHeld ?_; rotate_left; focus (intro w hSw; (try dsimp only at hSw); (try simp only [F4, HC3] at hSw); go_simp; (try with_reducible rfl); done)) | refine tn (i := 25) hHeld ?_
      try simp only [Act.put, List.setIfInBounds_toArray, List.set_cons_zero, List.set_cons_succ]
      first | (refine tw (i := 26) (v := ?_) ?_ hHeld ?_; rotate_left; focus (intro w hSw; (try dsimp only at hSw); (try simp only [F4, HC3] at hSw); go_simp; (try with_reducible rfl); done)) | refine tn (i := 26) hHeld ?_
      try simp only [Act.put, List.setIfInBounds_toArray, List.set_cons_zero, List.set_cons_succ]
      first | (refine tw (i := 27) (v := ?_) ?_ hHeld ?_; rotate_left; focus (intro w hSw; (try dsimp only at hSw); (try simp only [F4, HC3] at hSw); go_simp; (try with_reducible rfl); done)) | refine tn (i := 27) hHeld ?_
      try simp only [Act.put, List.setIfInBounds_toArray, List.set_cons_zero, List.set_cons_succ]
      first | (refine tw (i := 28) (v := ?_) ?_ hHeld ?_; rotate_left; focus (intro w hSw; (try dsimp only at hSw); (try simp only [F4, HC3] at hSw); go_simp; (try with_reducible rfl); done)) | refine tn (i := 28) hHeld ?_
      try simp only [Act.put, List.setIfInBounds_toArray, List.set_cons_zero, List.set_cons_succ]
      first | (refine tw (i := 29) (v := ?_) ?_ hHeld ?_; rotate_left; focus (intro w hSw; (try dsimp only at hSw); (try simp only [F4, HC3] at hSw); go_simp; (try with_reducible rfl); done)) | refine tn (i := 29) hHeld ?_
      try simp only [Act.put, List.setIfInBounds_toArray, List.set_cons_zero, List.set_cons_succ]
      first | (refine tw (i := 30) (v := ?_) ?_ hHeld ?_; rotate_left; focus (intro w hSw; (try dsimp only at hSw); (try simp only [F4, HC3] at hSw); go_simp; (try with_reducible rfl); done)) | refine tn (i := 30) hHeld ?_
      try simp only [Act.put, List.setIfInBounds_toArray, List.set_cons_zero, List.set_cons_succ]
      first | (refine tw (i := 31) (v := ?_) ?_ hHeld ?_; rotate_left; focus (intro w hSw; (try dsimp only at hSw); (try simp only [F4, HC3] at hSw); go_simp; (try with_reducible rfl); done)) | refine tn (i := 31) hHeld ?_
      try simp only [Act.put, List.setIfInBounds_toArray, List.set_cons_zero, List.set_cons_succ]
      first | (refine tw (i := 32) (v := ?_) ?_ hHeld ?_; rotate_left; focus (intro w hSw; (try dsimp only at hSw); (try simp only [F4, HC3] at hSw); go_simp; (try with_reducible rfl); done)) | refine tn (i := 32) hHeld ?_
      try simp only [Act.put, List.setIfInBounds_toArray, List.set_cons_zero, List.set_cons_succ]
      first | (refine tw (i := 33) (v := ?_) ?_ hHeld ?_; rotate_left; focus (intro w hSw; (try dsimp only at hSw); (try simp only [F4, HC3] at hSw); go_simp; (try with_reducible rfl); done)) | refine tn (i := 33) hHeld ?_
      try simp only [Act.put, List.setIfInBounds_toArray, List.set_cons_zero, List.set_cons_succ]
      first | (refine tw (i := 34) (v := ?_) ?_ hHeld ?_; rotate_left; focus (intro w hSw; (try dsimp only at hSw); (try simp only [F4, HC3] at hSw); go_simp; (try with_reducible rfl); done)) | refine tn (i := 34) hHeld ?_
      try simp only [Act.put, List.setIfInBounds_toArray, List.set_cons_zero, List.set_cons_succ]
      first | (refine tw (i := 35) (v := ?_) ?_ hHeld ?_; rotate_left; focus (intro w hSw; (try dsimp only at hSw); (try simp only [F4, HC3] at hSw); go_simp; (try with_reducible rfl); done)) | refine tn (i := 35) hHeld ?_
      try simp only [Act.put, List.setIfInBounds_toArray, List.set_cons_zero, List.set_cons_succ]
      first | (refine tw (i := 36) (v := ?_) ?_ hHeld ?_; rotate_left; focus (intro w hSw; (try dsimp only at hSw); (try simp only [F4, HC3] at hSw); go_simp; (try with_reducible rfl); done)) | refine tn (i := 36) hHeld ?_
      try simp only [Act.put, List.setIfInBounds_toArray, List.set_cons_zero, List.set_cons_succ]
      first | (refine tw (i := 37) (v := ?_) ?_ hHeld ?_; rotate_left; focus (intro w hSw; (try dsimp only at hSw); (try simp only [F4, HC3] at hSw); go_simp; (try with_reducible rfl); done)) | refine tn (i := 37) hHeld ?_
      try simp only [Act.put, List.setIfInBounds_toArray, List.set_cons_zero, List.set_cons_succ]
      first | (refine tw (i := 38) (v := ?_) ?_ hHeld ?_; rotate_left; focus (intro w hSw; (try dsimp only at hSw); (try simp only [F4, HC3] at hSw); go_simp; (try with_reducible rfl); done)) | refine tn (i := 38) hHeld ?_
      try simp only [Act.put, List.setIfInBounds_toArray, List.set_cons_zero, List.set_cons_succ]
      refine wpAnyH_done (by kernel_rfl) ?_ _
      go_wp2
      exact hE.out _ hbx.out
    · have n1 : (c != 0) = true := by simpa [bne] using hc
      have n2 : (c == 0) = false := by simpa using hc
      have n3 : (c == c) = true := by simp
      clear hc
      go_wp2_with (go_at_call 18; (with_reducible refine (hZ0.out _ hm1.out).mono ?_); rintro e6 w6 ⟨zk, za, zb, ez, hPZ, rfl, hA⟩; clear hPZ; replace hbx := Lib.hid (bt hbx.out hA); replace hF := Lib.hid (hF.out.below hA); replace hm1 := Lib.hid (hm1.out.below hA); obtain ⟨c0, c1, c2⟩ := hF.out; replace hX := Lib.hid (hX.out.below hA); replace hY := Lib.hid (hY.out.below hA); clear hA; have hA := alb w6 (.cells #[.int .i64 zk, .int .i64 za, .int .i64 zb] 29); replace hbx := Lib.hid (bt hbx.out hA); replace hF := Lib.hid (hF.out.below hA); replace hm1 := Lib.hid (hm1.out.below hA); obtain ⟨c0, c1, c2⟩ := hF.out; replace hX := Lib.hid (hX.out.below hA); replace hY := Lib.hid (hY.out.below hA); have hZ := Lib.hid (HRl.new w6 29 zk za zb).hc; clear hA)
      have hr2 : Hid (F4 (w6.alloc (.cells #[.int .i64 zk, .int .i64 za, .int .i64 zb] 29)).drew w.heap.size w4.heap.size w5.heap.size w6.heap.size k a b xk xa xb zk za zb) := F4.below ⟨hF.out, hX.out, hY.out, hZ.out⟩ (bdrw _)
      replace hbx := Lib.hid (bt hbx.out (bdrw _))
      clear hF hX hY hZ c0 c1 c2
      refine wp_region_held_drew (S := (fun w' => F4 w' w.heap.size w4.heap.size w5.heap.size w6.heap.size k a b xk xa xb zk za zb)) (by kernel_rfl) ?_ (fun hHeld => ?_)
      · first | with_reducible exact hr2.out
      first | (refine tw (i := 0) (v := ?_) ?_ hHeld ?_; rotate_left; focus (intro w hSw; (try dsimp only at hSw); (try simp only [F4, HC3] at hSw); go_simp; (try with_reducible rfl); done)) | refine tn (i := 0) hHeld ?_
      try simp only [Act.put, List.setIfInBounds_toArray, List.set_cons_zero, List.set_cons_succ]
      first | (refine tw (i := 1) (v := ?_) ?_ hHeld ?_; rotate_left; focus (intro w hSw; (try dsimp only at hSw); (try simp only [F4, HC3] at hSw); go_simp; (try with_reducible rfl); done)) | refine tn (i := 1) hHeld ?_
      try simp only [Act.put, List.setIfInBounds_toArray, List.set_cons_zero, List.set_cons_succ]
      first | (refine tw (i := 2) (v := ?_) ?_ hHeld ?_; rotate_left; focus (intro w hSw; (try dsimp only at hSw); (try simp only [F4, HC3] at hSw); go_simp; (try with_reducible rfl); done)) | refine tn (i := 2) hHeld ?_
      try simp only [Act.put, List.setIfInBounds_toArray, List.set_cons_zero, List.set_cons_succ]
      first | (refine tw (i := 3) (v := ?_) ?_ hHeld ?_; rotate_left; focus (intro w hSw; (try dsimp only at hSw); (try simp only [F4, HC3] at hSw); go_simp; (try with_reducible rfl); done)) | refine tn (i := 3) hHeld ?_
      try simp only [Act.put, List.setIfInBounds_toArray, List.set_cons_zero, List.set_cons_succ]
      first | (refine tw (i := 4) (v := ?_) ?_ hHeld ?_; rotate_left; focus (intro w hSw; (try dsimp only at hSw); (try simp only [F4, HC3] at hSw); go_simp; (try with_reducible rfl); done)) | refine tn (i := 4) hHeld ?_
      try simp only [Act.put, List.setIfInBounds_toArray, List.set_cons_zero, List.set_cons_succ]
      first | (refine tw (i := 5) (v := ?_) ?_ hHeld ?_; rotate_left; focus (intro w hSw; (try dsimp only at hSw); (try simp only [F4, HC3] at hSw); go_simp; (try with_reducible rfl); done)) | refine tn (i := 5) hHeld ?_
      try simp only [Act.put, List.setIfInBounds_toArray, List.set_cons_zero, List.set_cons_succ]
      first | (refine tw (i := 6) (v := ?_) ?_ hHeld ?_; rotate_left; focus (intro w hSw; (try dsimp only at hSw); (try simp only [F4, HC3] at hSw); go_simp; (try with_reducible rfl); done)) | refine tn (i := 6) hHeld ?_
      try simp only [Act.put, List.setIfInBounds_toArray, List.set_cons_zero, List.set_cons_succ]
      first | (refine tw (i := 7) (v := ?_) ?_ hHeld ?_; rotate_left; focus (intro w hSw; (try dsimp only at hSw); (try simp only [F4, HC3] at hSw); go_simp; (try with_reducible rfl); done)) | refine tn (i := 7) hHeld ?_
      try simp only [Act.put, List.setIfInBounds_toArray, List.set_cons_zero, List.set_cons_succ]
      first | (refine tw (i := 8) (v := ?_) ?_ hHeld ?_; rotate_left; focus (intro w hSw; (try dsimp only at hSw); (try simp only [F4, HC3] at hSw); go_simp; (try with_reducible rfl); done)) | refine tn (i := 8) hHeld ?_
      try simp only [Act.put, List.setIfInBounds_toArray, List.set_cons_zero, List.set_cons_succ]
      first | (refine tw (i := 9) (v := ?_) ?_ hHeld ?_; rotate_left; focus (intro w hSw; (try dsimp only at hSw); (try simp only [F4, HC3] at hSw); go_simp; (try with_reducible rfl); done)) | refine tn (i := 9) hHeld ?_
      try simp only [Act.put, List.setIfInBounds_toArray, List.set_cons_zero, List.set_cons_succ]
      first | (refine tw (i := 11) (v := ?_) ?_ hHeld ?_; rotate_left; focus (intro w hSw; (try dsimp only at hSw); (try simp only [F4, HC3] at hSw); go_simp; (try with_reducible rfl); done)) | refine tn (i := 11) hHeld ?_
      try simp only [Act.put, List.setIfInBounds_toArray, List.set_cons_zero, List.set_cons_succ]
      refine call_next (i := 10) (by kernel_rfl) (by rfl) ?_
      intro o ho K hK
      simp only [List.getElem?_toArray, List.getElem?_cons_succ, List.getElem?_cons_zero, Option.some.injEq] at ho
      subst ho
      first | (fail; refine hK.out _ _ ?_ (fun hHeld => ?_)) | (go_simp; first | (with_reducible refine hK.out _ _ ?_ (fun hHeld => ?_)) | ((first | (go_at_call 20; (with_reducible refine (hCk.out _).mono ?_); rintro e7 w7 ⟨rfl, hA⟩; replace hr2 := Lib.hid (hr2.out.below hA); replace hbx := Lib.hid (bt hbx.out hA); clear hA) | (go_at_call 21; (with_reducible refine (hRk.out _).mono ?_); rintro e7 w7 ⟨rfl, hA⟩; replace hr2 := Lib.hid (hr2.out.below hA); replace hbx := Lib.hid (bt hbx.out hA); clear hA)); refine hK.out _ _ ?_ (fun hHeld => ?_)))
      · first | with_reducible exact hr2.out
      clear hK K
      try simp only [Act.put, List.setIfInBounds_toArray, List.set_cons_zero, List.set_cons_succ]
      refine call_next (i := 12) (by kernel_rfl) (by rfl) ?_
      intro o ho K hK
      simp only [List.getElem?_toArray, List.getElem?_cons_succ, List.getElem?_cons_zero, Option.some.injEq] at ho
      subst ho
      first | (fail; refine hK.out _ _ ?_ (fun hHeld => ?_)) | (go_simp; first | (with_reducible refine hK.out _ _ ?_ (fun hHeld => ?_)) | ((first | (go_at_call 20; (with_reducible refine (hCk.out _).mono ?_); rintro e7 w7 ⟨rfl, hA⟩; replace hr2 := Lib.hid (hr2.out.below hA); replace hbx := Lib.hid (bt hbx.out hA); clear hA) | (go_at_call 21; (with_reducible refine (hRk.out _).mono ?_); rintro e7 w7 ⟨rfl, hA⟩; replace hr2 := Lib.hid (hr2.out.below hA); replace hbx := Lib.hid (bt hbx.out hA); clear hA)); refine hK.out _ _ ?_ (fun hHeld => ?_)))
      · first | with_reducible exact hr2.out
      clear hK K
      try simp only [Act.put, List.setIfInBounds_toArray, List.set_cons_zero, List.set_cons_succ]
      first | (refine tw (i := 13) (v := ?_) ?_ hHeld ?_; rotate_left; focus (intro w hSw; (try dsimp only at hSw); (try simp only [F4, HC3] at hSw); go_simp; (try with_reducible rfl); done)) | refine tn (i := 13) hHeld ?_
      try simp only [Act.put, List.setIfInBounds_toArray, List.set_cons_zero, List.set_cons_succ]
      first | (refine tw (i := 14) (v := ?_) ?_ hHeld ?_; rotate_left; focus (intro w hSw; (try dsimp only at hSw); (try simp only [F4, HC3] at hSw); go_simp; (try with_reducible rfl); done)) | refine tn (i := 14) hHeld ?_
      try simp only [Act.put, List.setIfInBounds_toArray, List.set_cons_zero, List.set_cons_succ]
      first | (refine tw (i := 15) (v := ?_) ?_ hHeld ?_; rotate_left; focus (intro w hSw; (try dsimp only at hSw); (try simp only [F4, HC3] at hSw); go_simp; (try with_reducible rfl); done)) | refine tn (i := 15) hHeld ?_
      try simp only [Act.put, List.setIfInBounds_toArray, List.set_cons_zero, List.set_cons_succ]
      first | (refine tw (i := 16) (v := ?_) ?_ hHeld ?_; rotate_left; focus (intro w hSw; (try dsimp only at hSw); (try simp only [F4, HC3] at hSw); go_simp; (try with_reducible rfl); done)) | refine tn (i := 16) hHeld ?_
      try simp only [Act.put, List.setIfInBounds_toArray, List.set_cons_zero, List.set_cons_succ]
      first | (refine tw (i := 17) (v := ?_) ?_ hHeld ?_; rotate_left; focus (intro w hSw; (try dsimp only at hSw); (try simp only [F4, HC3] at hSw); go_simp; (try with_reducible rfl); done)) | refine tn (i := 17) hHeld ?_
      try simp only [Act.put, List.setIfInBounds_toArray, List.set_cons_zero, List.set_cons_succ]
      first | (refine tw (i := 18) (v := ?_) ?_ hHeld ?_; rotate_left; focus (intro w hSw; (try dsimp only at hSw); (try simp only [F4, HC3] at hSw); go_simp; (try with_reducible rfl); done)) | refine tn (i := 18) hHeld ?_
      try simp only [Act.put, List.setIfInBounds_toArray, List.set_cons_zero, List.set_cons_succ]
      first | (refine tw (i := 19) (v := ?_) ?_ hHeld ?_; rotate_left; focus (intro w hSw; (try dsimp only at hSw); (try simp only [F4, HC3] at hSw); go_simp; (try with_reducible rfl); done)) | refine tn (i := 19) hHeld ?_
      try simp only [Act.put, List.setIfInBounds_toArray, List.set_cons_zero, List.set_cons_succ]
      first | (refine tw (i := 20) (v := ?_) ?_ hHeld ?_; rotate_left; focus (intro w hSw; (try dsimp only at hSw); (try simp only [F4, HC3] at hSw); go_simp; (try with_reducible rfl); done)) | refine tn (i := 20) hHeld ?_
      try simp only [Act.put, List.setIfInBounds_toArray, List.set_cons_zero, List.set_cons_succ]
      first | (refine tw (i := 21) (v := ?_) ?_ hHeld ?_; rotate_left; focus (intro w hSw; (try dsimp only at hSw); (try simp only [F4, HC3] at hSw); go_simp; (try with_reducible rfl); done)) | refine tn (i := 21) hHeld ?_
      try simp only [Act.put, List.setIfInBounds_toArray, List.set_cons_zero, List.set_cons_succ]
      first | (refine tw (i := 22) (v := ?_) ?_ hHeld ?_; rotate_left; focus (intro w hSw; (try dsimp only at hSw); (try simp only [F4, HC3] at hSw); go_simp; (try with_reducible rfl); done)) | refine tn (i := 22) hHeld ?_
      try simp only [Act.put, List.setIfInBounds_toArray, List.set_cons_zero, List.set_cons_succ]
      first | (refine tw (i := 23) (v := ?_) ?_ hHeld ?_; rotate_left; focus (intro w hSw; (try dsimp only at hSw); (try simp only [F4, HC3] at hSw); go_simp; (try with_reducible rfl); done)) | refine tn (i := 23) hHeld ?_
      try simp only [Act.put, List.setIfInBounds_toArray, List.set_cons_zero, List.set_cons_succ]
      first | (refine tw (i := 24) (v := ?_) ?_ hHeld ?_; rotate_left; focus (intro w hSw; (try dsimp only at hSw); (try simp only [F4, HC3] at hSw); go_simp; (try with_reducible rfl); done)) | refine tn (i := 24) hHeld ?_
      try simp only [Act.put, List.setIfInBounds_toArray, List.set_cons_zero, List.set_cons_succ]
      first | (refine tw (i := 25) (v := ?_) ?_ hHeld ?_; rotate_left; focus (intro w hSw; (try dsimp only at hSw); (try simp only [F4, HC3] at hSw); go_simp; (try with_reducible rfl); done)) | refine tn (i := 25) hHeld ?_
      try simp only [Act.put, List.setIfInBounds_toArray, List.set_cons_zero, List.set_cons_succ]
      first | (refine tw (i := 26) (v := ?_) ?_ hHeld ?_; rotate_left; focus (intro w hSw; (try dsimp only at hSw); (try simp only [F4, HC3] at hSw); go_simp; (try with_reducible rfl); done)) | refine tn (i := 26) hHeld ?_
      try simp only [Act.put, List.setIfInBounds_toArray, List.set_cons_zero, List.set_cons_succ]
      first | (refine tw (i := 27) (v := ?_) ?_ hHeld ?_; rotate_left; focus (intro w hSw; (try dsimp only at hSw); (try simp only [F4, HC3] at hSw); go_simp; (try with_reducible rfl); done)) | refine tn (i := 27) hHeld ?_
      try simp only [Act.put, List.setIfInBounds_toArray, List.set_cons_zero, List.set_cons_succ]
      first | (refine tw (i := 28) (v := ?_) ?_ hHeld ?_; rotate_left; focus (intro w hSw; (try dsimp only at hSw); (try simp only [F4, HC3] at hSw); go_simp; (try with_reducible rfl); done)) | refine tn (i := 28) hHeld ?_
      try simp only [Act.put, List.setIfInBounds_toArray, List.set_cons_zero, List.set_cons_succ]
      first | (refine tw (i := 29) (v := ?_) ?_ hHeld ?_; rotate_left; focus (intro w hSw; (try dsimp only at hSw); (try simp only [F4, HC3] at hSw); go_simp; (try with_reducible rfl); done)) | refine tn (i := 29) hHeld ?_
      try simp only [Act.put, List.setIfInBounds_toArray, List.set_cons_zero, List.set_cons_succ]
      first | (refine tw (i := 30) (v := ?_) ?_ hHeld ?_; rotate_left; focus (intro w hSw; (try dsimp only at hSw); (try simp only [F4, HC3] at hSw); go_simp; (try with_reducible rfl); done)) | refine tn (i := 30) hHeld ?_
      try simp only [Act.put, List.setIfInBounds_toArray, List.set_cons_zero, List.set_cons_succ]
      first | (refine tw (i := 31) (v := ?_) ?_ hHeld ?_; rotate_left; focus (intro w hSw; (try dsimp only at hSw); (try simp only [F4, HC3] at hSw); go_simp; (try with_reducible rfl); done)) | refine tn (i := 31) hHeld ?_
      try simp only [Act.put, List.setIfInBounds_toArray, List.set_cons_zero, List.set_cons_succ]
      first | (refine tw (i := 32) (v := ?_) ?_ hHeld ?_; rotate_left; focus (intro w hSw; (try dsimp only at hSw); (try simp only [F4, HC3] at hSw); go_simp; (try with_reducible rfl); done)) | refine tn (i := 32) hHeld ?_
      try simp only [Act.put, List.setIfInBounds_toArray, List.set_cons_zero, List.set_cons_succ]
      first | (refine tw (i := 33) (v := ?_) ?_ hHeld ?_; rotate_left; focus (intro w hSw; (try dsimp only at hSw); (try simp only [F4, HC3] at hSw); go_simp; (try with_reducible rfl); done)) | refine tn (i := 33) hHeld ?_
      try simp only [Act.put, List.setIfInBounds_toArray, List.set_cons_zero, List.set_cons_succ]
      first | (refine tw (i := 34) (v := ?_) ?_ hHeld ?_; rotate_left; focus (intro w hSw; (try dsimp only at hSw); (try simp only [F4, HC3] at hSw); go_simp; (try with_reducible rfl); done)) | refine tn (i := 34) hHeld ?_
      try simp only [Act.put, List.setIfInBounds_toArray, List.set_cons_zero, List.set_cons_succ]
      first | (refine tw (i := 35) (v := ?_) ?_ hHeld ?_; rotate_left; focus (intro w hSw; (try dsimp only at hSw); (try simp only [F4, HC3] at hSw); go_simp; (try with_reducible rfl); done)) | refine tn (i := 35) hHeld ?_
      try simp only [Act.put, List.setIfInBounds_toArray, List.set_cons_zero, List.set_cons_succ]
      first | (refine tw (i := 36) (v := ?_) ?_ hHeld ?_; rotate_left; focus (intro w hSw; (try dsimp only at hSw); (try simp only [F4, HC3] at hSw); go_simp; (try with_reducible rfl); done)) | refine tn (i := 36) hHeld ?_
      try simp only [Act.put, List.setIfInBounds_toArray, List.set_cons_zero, List.set_cons_succ]
      first | (refine tw (i := 37) (v := ?_) ?_ hHeld ?_; rotate_left; focus (intro w hSw; (try dsimp only at hSw); (try simp only [F4, HC3] at hSw); go_simp; (try with_reducible rfl); done)) | refine tn (i := 37) hHeld ?_
      try simp only [Act.put, List.setIfInBounds_toArray, List.set_cons_zero, List.set_cons_succ]
      first | (refine tw (i := 38) (v := ?_) ?_ hHeld ?_; rotate_left; focus (intro w hSw; (try dsimp only at hSw); (try simp only [F4, HC3] at hSw); go_simp; (try with_reducible rfl); done)) | refine tn (i := 38) hHeld ?_
      try simp only [Act.put, List.setIfInBounds_toArray, List.set_cons_zero, List.set_cons_succ]
      refine wpAnyH_done (by kernel_rfl) ?_ _
      go_wp2
      exact hE.out _ hbx.out
end Go.Proofs.YtnflnaalpeeciaaDoor
