/-
  Frames as bytes (chapter 25): the program's PutFrame, of a frame that may be.
-/
import Derived.Test.YtemfdmbjlmiopaaFrm2
namespace Go.Proofs.Ytemfdmbjlmiopaa
open Go.RowKit
set_option linter.unusedVariables false
set_option linter.unusedSimpArgs false
/-- the two who speak, in a row; and one of them in a box -/
def IC (W : World) (g : Nat) (a b c d : Int) : Prop := W.cell? ⟨g, 0, none⟩ = some (.int .i64 a) ∧ W.cell? ⟨g, 1, none⟩ = some (.int .i64 b) ∧ W.cell? ⟨g, 2, none⟩ = some (.int .i64 c) ∧ W.cell? ⟨g, 3, none⟩ = some (.int .i64 d)
theorem IC.below {W W' : World} {g : Nat} {a b c d : Int} (h : IC W g a b c d) (hb : Below W.heap.size W W') : IC W' g a b c d := ⟨bkeep hb h.1, bkeep hb h.2.1, bkeep hb h.2.2.1, bkeep hb h.2.2.2⟩
theorem IC.new (w : World) (a b c d : Int) (T : TypeId) : IC (w.alloc (.cells #[.int .i64 a, .int .i64 b, .int .i64 c, .int .i64 d] T)) w.heap.size a b c d := by simp [IC, go_sem]
def XC (W : World) (g : Nat) (a b : Int) : Prop := W.cell? ⟨g, 0, none⟩ = some (.int .i64 a) ∧ W.cell? ⟨g, 1, none⟩ = some (.int .i64 b)
theorem XC.below {W W' : World} {g : Nat} {a b : Int} (h : XC W g a b) (hb : Below W.heap.size W W') : XC W' g a b := ⟨bkeep hb h.1, bkeep hb h.2⟩
theorem XC.new (w : World) (a b : Int) (T : TypeId) : XC (w.alloc (.cells #[.int .i64 a, .int .i64 b] T)) w.heap.size a b := by simp [XC, go_sem]
theorem held4n {w : World} {a b c d : Int} (T : TypeId) : let W := w.alloc (.cells #[.int .i64 a, .int .i64 b, .int .i64 c, .int .i64 d] T)
    W.cell? ⟨w.heap.size, 0, none⟩ = some (.int .i64 a) ∧ W.cell? ⟨w.heap.size, 1, none⟩ = some (.int .i64 b) ∧ W.cell? ⟨w.heap.size, 2, none⟩ = some (.int .i64 c) ∧ W.cell? ⟨w.heap.size, 3, none⟩ = some (.int .i64 d) := by simp [go_sem]
set_option maxRecDepth 20000 in
set_option maxHeartbeats 6400000 in
theorem wputf_ok {n fb ft tb tt s a : Int} {b : ByteArray} (w : World) (hb : b.size ≤ 100000) (p1 : decide (0 ≤ n ∧ n ≤ 1) = true) (p2 : idB fb ft 1 = true) (p3 : idB tb tt 0 = true) (p4 : decide (0 ≤ s ∧ s ≤ 281474976710655) = true) (p5 : decide (0 ≤ a ∧ a ≤ 281474976710655) = true) (h0 : ¬ (s = 0 ∧ b.size ≠ 0)) (m0 : (s == 0) = false) : Calls Try.prog 15 #[FV n fb ft tb tt s a b] w fun e' w' => e' = .returned (.tuple #[.string (fputS ⟨n, fb, ft, tb, tt, s, a, b⟩), .int .i64 (fputE ⟨n, fb, ft, tb, tt, s, a, b⟩)]) ∧ Below w.heap.size w w' := by
  have hc : fchk ⟨n, fb, ft, tb, tt, s, a, b⟩ = 0 := by
    unfold fchk
    rw [if_neg (by simp only [p1, p2, p3, cntB, p4, p5]; simp), if_neg h0]
  obtain ⟨e1, e2⟩ := fput_good hc
  rw [e1, e2]
  clear e1 e2 hc h0
  have q1 := of_decide_eq_true p1
  have q2 := of_decide_eq_true p2
  have q3 := of_decide_eq_true p3
  have q4 := of_decide_eq_true p4
  have q5 := of_decide_eq_true p5
  dsimp only [fhead]
  have hz0 : (⟨#[]⟩ : ByteArray).size = 0 := rfl
  have z1 := putS_size ⟨#[]⟩ n 1
  have C1 := Lib.hid (fun w => put_any ⟨#[]⟩ n 1 w (by omega) (by omega))
  obtain ⟨t1, ht⟩ : ∃ t, putS ⟨#[]⟩ n 1 = t := ⟨_, rfl⟩
  rw [ht] at C1 z1 ⊢
  clear ht
  have z2 := putS_size t1 fb 4
  have C2 := Lib.hid (fun w => put_any t1 fb 4 w (by omega) (by omega))
  obtain ⟨t2, ht⟩ : ∃ t, putS t1 fb 4 = t := ⟨_, rfl⟩
  rw [ht] at C2 z2 ⊢
  clear ht
  have z3 := putS_size t2 ft 4
  have C3 := Lib.hid (fun w => put_any t2 ft 4 w (by omega) (by omega))
  obtain ⟨t3, ht⟩ : ∃ t, putS t2 ft 4 = t := ⟨_, rfl⟩
  rw [ht] at C3 z3 ⊢
  clear ht
  have z4 := putS_size t3 tb 4
  have C4 := Lib.hid (fun w => put_any t3 tb 4 w (by omega) (by omega))
  obtain ⟨t4, ht⟩ : ∃ t, putS t3 tb 4 = t := ⟨_, rfl⟩
  rw [ht] at C4 z4 ⊢
  clear ht
  have z5 := putS_size t4 tt 4
  have C5 := Lib.hid (fun w => put_any t4 tt 4 w (by omega) (by omega))
  obtain ⟨t5, ht⟩ : ∃ t, putS t4 tt 4 = t := ⟨_, rfl⟩
  rw [ht] at C5 z5 ⊢
  clear ht
  have z6 := putS_size t5 s 6
  have C6 := Lib.hid (fun w => put_any t5 s 6 w (by omega) (by omega))
  obtain ⟨t6, ht⟩ : ∃ t, putS t5 s 6 = t := ⟨_, rfl⟩
  rw [ht] at C6 z6 ⊢
  clear ht
  have z7 := putS_size t6 a 6
  have C7 := Lib.hid (fun w => put_any t6 a 6 w (by omega) (by omega))
  obtain ⟨t7, ht⟩ : ∃ t, putS t6 a 6 = t := ⟨_, rfl⟩
  rw [ht] at C7 z7 ⊢
  clear ht
  have hs9 : ¬ 9223372036854775807 < t7.size + b.size := by omega
  have C8 := Lib.hid (fun w => sealput_any 9 (t7 ++ b) w (by decide) (by rw [ByteArray.size_append]; omega))
  clear z1 z2 z3 z4 z5 z6 z7 hz0 q1 q2 q3 q4 q5 hb
  generalize sealS 9 (t7 ++ b) = X1 at *
  generalize putE 9 (t7 ++ b) = X2 at *
  have HC := Lib.hid (FC.new w ⟨n, fb, ft, tb, tt, s, a, b⟩ 45)
  have HB : Below w.heap.size w (w.alloc (.cells #[.int .i64 n, .int .i64 fb, .int .i64 ft, .int .i64 tb, .int .i64 tt, .int .i64 s, .int .i64 a, .string b] 45)) := (Below.refl _ _).alloc (Nat.le_refl _) _
  obtain ⟨c0, c1, c2, c3, c4, c5, c6, c7⟩ := id HC.out
  go_enter Try.func15, Try.ntmps15
  go_wp2_with fail
  generalize w.alloc (.cells #[.int .i64 n, .int .i64 fb, .int .i64 ft, .int .i64 tb, .int .i64 tt, .int .i64 s, .int .i64 a, .string b] 45) = W1 at *
  refine (wwithin_any _ _ _).mono ?_
  rintro e' W ⟨rfl, hW⟩
  subst hW
  rw [p1]
  go_wp2_with fail
  refine (ident_any _ _ _ _).mono ?_
  rintro e' W ⟨rfl, hA⟩
  replace HC := Lib.hid (HC.out.below hA)
  replace HB := bt HB hA
  replace c0 := bkeep hA c0
  replace c1 := bkeep hA c1
  replace c2 := bkeep hA c2
  replace c3 := bkeep hA c3
  replace c4 := bkeep hA c4
  replace c5 := bkeep hA c5
  replace c6 := bkeep hA c6
  replace c7 := bkeep hA c7
  clear hA
  rw [p2]
  go_wp2_with fail
  refine (ident_any _ _ _ _).mono ?_
  rintro e' W ⟨rfl, hA⟩
  replace HC := Lib.hid (HC.out.below hA)
  replace HB := bt HB hA
  replace c0 := bkeep hA c0
  replace c1 := bkeep hA c1
  replace c2 := bkeep hA c2
  replace c3 := bkeep hA c3
  replace c4 := bkeep hA c4
  replace c5 := bkeep hA c5
  replace c6 := bkeep hA c6
  replace c7 := bkeep hA c7
  clear hA
  rw [p3]
  go_wp2_with fail
  refine (wwithin_any _ _ _).mono ?_
  rintro e' W ⟨rfl, hW⟩
  subst hW
  rw [p4]
  go_wp2_with fail
  refine (wwithin_any _ _ _).mono ?_
  rintro e' W ⟨rfl, hW⟩
  subst hW
  rw [p5]
  go_wp2_with fail
  refine (C1.out _).mono ?_
  rintro e' W5 ⟨rfl, hA⟩
  replace HC := Lib.hid (HC.out.below hA)
  replace HB := bt HB hA
  replace c0 := bkeep hA c0
  replace c1 := bkeep hA c1
  replace c2 := bkeep hA c2
  replace c3 := bkeep hA c3
  replace c4 := bkeep hA c4
  replace c5 := bkeep hA c5
  replace c6 := bkeep hA c6
  replace c7 := bkeep hA c7
  clear hA
  go_wp2_with fail
  have HG := Lib.hid (IC.new W5 fb ft tb tt 43)
  have hA := (Below.refl W5.heap.size W5).alloc (Nat.le_refl _) (.cells #[.int .i64 fb, .int .i64 ft, .int .i64 tb, .int .i64 tt] 43)
  replace HC := Lib.hid (HC.out.below hA)
  replace HB := Lib.hid (bt HB hA)
  clear hA
  clear c0 c1 c2 c3 c4 c5 c6 c7
  generalize W5.alloc (.cells #[.int .i64 fb, .int .i64 ft, .int .i64 tb, .int .i64 tt] 43) = W6 at *
  generalize W5.heap.size = G at *
  clear p1 p2 p3 p4 p5 C1
  refine wp_loop_rounds 3 ?_
  rw [rounds_succ]
  obtain ⟨g0, g1, g2, g3⟩ := id HG.out
  go_wp2_with fail
  clear g0 g1 g2 g3
  have HS := Lib.hid (XC.new W6 fb ft 43)
  have hA := (Below.refl W6.heap.size W6).alloc (Nat.le_refl _) (.cells #[.int .i64 fb, .int .i64 ft] 43)
  replace HC := Lib.hid (HC.out.below hA)
  replace HG := Lib.hid (HG.out.below hA)
  replace HB := Lib.hid (bt HB.out hA)
  clear hA
  generalize W6.alloc (.cells #[.int .i64 fb, .int .i64 ft] 43) = W7 at *
  generalize W6.heap.size = X at *
  replace HC : Hid (FC W7.drew w.heap.size ⟨n, fb, ft, tb, tt, s, a, b⟩) := HC.out
  replace HG : Hid (IC W7.drew G fb ft tb tt) := HG.out
  replace HB := Lib.hid HB.out.drew
  replace HS : Hid ((fun w' : World => XC w' X fb ft) W7.drew) := HS.out
  refine wp_region_held_drew (S := (fun w' : World => XC w' X fb ft)) (by kernel_rfl) ?_ (fun hHeld => ?_)
  · first | with_reducible exact HS.out
  first | (refine tw (i := 0) (v := ?_) ?_ hHeld ?_; rotate_left; focus (intro w hSw; (try dsimp only at hSw); (try simp only [XC] at hSw); go_simp; (try with_reducible rfl); done)) | refine tn (i := 0) hHeld ?_
  try simp only [Act.put, List.setIfInBounds_toArray, List.set_cons_zero, List.set_cons_succ]
  first | (refine tw (i := 1) (v := ?_) ?_ hHeld ?_; rotate_left; focus (intro w hSw; (try dsimp only at hSw); (try simp only [XC] at hSw); go_simp; (try with_reducible rfl); done)) | refine tn (i := 1) hHeld ?_
  try simp only [Act.put, List.setIfInBounds_toArray, List.set_cons_zero, List.set_cons_succ]
  first | (refine tw (i := 2) (v := ?_) ?_ hHeld ?_; rotate_left; focus (intro w hSw; (try dsimp only at hSw); (try simp only [XC] at hSw); go_simp; (try with_reducible rfl); done)) | refine tn (i := 2) hHeld ?_
  try simp only [Act.put, List.setIfInBounds_toArray, List.set_cons_zero, List.set_cons_succ]
  first | (refine tw (i := 4) (v := ?_) ?_ hHeld ?_; rotate_left; focus (intro w hSw; (try dsimp only at hSw); (try simp only [XC] at hSw); go_simp; (try with_reducible rfl); done)) | refine tn (i := 4) hHeld ?_
  try simp only [Act.put, List.setIfInBounds_toArray, List.set_cons_zero, List.set_cons_succ]
  first | (refine tw (i := 5) (v := ?_) ?_ hHeld ?_; rotate_left; focus (intro w hSw; (try dsimp only at hSw); (try simp only [XC] at hSw); go_simp; (try with_reducible rfl); done)) | refine tn (i := 5) hHeld ?_
  try simp only [Act.put, List.setIfInBounds_toArray, List.set_cons_zero, List.set_cons_succ]
  refine call_next (i := 3) (by kernel_rfl) (by rfl) ?_
  intro o ho K hK
  simp only [List.getElem?_toArray, List.getElem?_cons_succ, List.getElem?_cons_zero, Option.some.injEq] at ho
  subst ho
  first | (fail; refine hK.out _ _ ?_ (fun hHeld => ?_)) | (go_simp; first | (with_reducible refine hK.out _ _ ?_ (fun hHeld => ?_)) | ((first | (go_at_call 22; (with_reducible refine (C2.out _).mono ?_); rintro e' W9 ⟨rfl, hA⟩; replace HS : Hid ((fun w' : World => XC w' X fb ft) W9) := HS.out.below hA; replace HC := Lib.hid (HC.out.below hA); replace HG := Lib.hid (HG.out.below hA); replace HB := Lib.hid (bt HB.out hA); clear hA) | (go_at_call 22; (with_reducible refine (C3.out _).mono ?_); rintro e' W9 ⟨rfl, hA⟩; replace HS : Hid ((fun w' : World => XC w' X fb ft) W9) := HS.out.below hA; replace HC := Lib.hid (HC.out.below hA); replace HG := Lib.hid (HG.out.below hA); replace HB := Lib.hid (bt HB.out hA); clear hA)); refine hK.out _ _ ?_ (fun hHeld => ?_)))
  · first | with_reducible exact HS.out
  clear hK K
  try simp only [Act.put, List.setIfInBounds_toArray, List.set_cons_zero, List.set_cons_succ]
  refine call_next (i := 6) (by kernel_rfl) (by rfl) ?_
  intro o ho K hK
  simp only [List.getElem?_toArray, List.getElem?_cons_succ, List.getElem?_cons_zero, Option.some.injEq] at ho
  subst ho
  first | (fail; refine hK.out _ _ ?_ (fun hHeld => ?_)) | (go_simp; first | (with_reducible refine hK.out _ _ ?_ (fun hHeld => ?_)) | ((first | (go_at_call 22; (with_reducible refine (C2.out _).mono ?_); rintro e' W9 ⟨rfl, hA⟩; replace HS : Hid ((fun w' : World => XC w' X fb ft) W9) := HS.out.below hA; replace HC := Lib.hid (HC.out.below hA); replace HG := Lib.hid (HG.out.below hA); replace HB := Lib.hid (bt HB.out hA); clear hA) | (go_at_call 22; (with_reducible refine (C3.out _).mono ?_); rintro e' W9 ⟨rfl, hA⟩; replace HS : Hid ((fun w' : World => XC w' X fb ft) W9) := HS.out.below hA; replace HC := Lib.hid (HC.out.below hA); replace HG := Lib.hid (HG.out.below hA); replace HB := Lib.hid (bt HB.out hA); clear hA)); refine hK.out _ _ ?_ (fun hHeld => ?_)))
  · first | with_reducible exact HS.out
  clear hK K
  try simp only [Act.put, List.setIfInBounds_toArray, List.set_cons_zero, List.set_cons_succ]
  first | (refine tw (i := 7) (v := ?_) ?_ hHeld ?_; rotate_left; focus (intro w hSw; (try dsimp only at hSw); (try simp only [XC] at hSw); go_simp; (try with_reducible rfl); done)) | refine tn (i := 7) hHeld ?_
  try simp only [Act.put, List.setIfInBounds_toArray, List.set_cons_zero, List.set_cons_succ]
  refine wpAnyH_done (by kernel_rfl) ?_ _
  clear HS
  go_wp2_with fail
  rw [rounds_succ]
  obtain ⟨g0, g1, g2, g3⟩ := id HG.out
  go_wp2_with fail
  clear g0 g1 g2 g3
  have HS := Lib.hid (XC.new W9 tb tt 43)
  have hA := (Below.refl W9.heap.size W9).alloc (Nat.le_refl _) (.cells #[.int .i64 tb, .int .i64 tt] 43)
  replace HC := Lib.hid (HC.out.below hA)
  replace HG := Lib.hid (HG.out.below hA)
  replace HB := Lib.hid (bt HB.out hA)
  clear hA
  generalize W9.alloc (.cells #[.int .i64 tb, .int .i64 tt] 43) = W8 at *
  generalize W9.heap.size = Y at *
  replace HC : Hid (FC W8.drew w.heap.size ⟨n, fb, ft, tb, tt, s, a, b⟩) := HC.out
  replace HG : Hid (IC W8.drew G fb ft tb tt) := HG.out
  replace HB := Lib.hid HB.out.drew
  replace HS : Hid ((fun w' : World => XC w' Y tb tt) W8.drew) := HS.out
  refine wp_region_held_drew (S := (fun w' : World => XC w' Y tb tt)) (by kernel_rfl) ?_ (fun hHeld => ?_)
  · first | with_reducible exact HS.out
  first | (refine tw (i := 0) (v := ?_) ?_ hHeld ?_; rotate_left; focus (intro w hSw; (try dsimp only at hSw); (try simp only [XC] at hSw); go_simp; (try with_reducible rfl); done)) | refine tn (i := 0) hHeld ?_
  try simp only [Act.put, List.setIfInBounds_toArray, List.set_cons_zero, List.set_cons_succ]
  first | (refine tw (i := 1) (v := ?_) ?_ hHeld ?_; rotate_left; focus (intro w hSw; (try dsimp only at hSw); (try simp only [XC] at hSw); go_simp; (try with_reducible rfl); done)) | refine tn (i := 1) hHeld ?_
  try simp only [Act.put, List.setIfInBounds_toArray, List.set_cons_zero, List.set_cons_succ]
  first | (refine tw (i := 2) (v := ?_) ?_ hHeld ?_; rotate_left; focus (intro w hSw; (try dsimp only at hSw); (try simp only [XC] at hSw); go_simp; (try with_reducible rfl); done)) | refine tn (i := 2) hHeld ?_
  try simp only [Act.put, List.setIfInBounds_toArray, List.set_cons_zero, List.set_cons_succ]
  first | (refine tw (i := 4) (v := ?_) ?_ hHeld ?_; rotate_left; focus (intro w hSw; (try dsimp only at hSw); (try simp only [XC] at hSw); go_simp; (try with_reducible rfl); done)) | refine tn (i := 4) hHeld ?_
  try simp only [Act.put, List.setIfInBounds_toArray, List.set_cons_zero, List.set_cons_succ]
  first | (refine tw (i := 5) (v := ?_) ?_ hHeld ?_; rotate_left; focus (intro w hSw; (try dsimp only at hSw); (try simp only [XC] at hSw); go_simp; (try with_reducible rfl); done)) | refine tn (i := 5) hHeld ?_
  try simp only [Act.put, List.setIfInBounds_toArray, List.set_cons_zero, List.set_cons_succ]
  refine call_next (i := 3) (by kernel_rfl) (by rfl) ?_
  intro o ho K hK
  simp only [List.getElem?_toArray, List.getElem?_cons_succ, List.getElem?_cons_zero, Option.some.injEq] at ho
  subst ho
  first | (fail; refine hK.out _ _ ?_ (fun hHeld => ?_)) | (go_simp; first | (with_reducible refine hK.out _ _ ?_ (fun hHeld => ?_)) | ((first | (go_at_call 22; (with_reducible refine (C4.out _).mono ?_); rintro e' W9 ⟨rfl, hA⟩; replace HS : Hid ((fun w' : World => XC w' Y tb tt) W9) := HS.out.below hA; replace HC := Lib.hid (HC.out.below hA); replace HG := Lib.hid (HG.out.below hA); replace HB := Lib.hid (bt HB.out hA); clear hA) | (go_at_call 22; (with_reducible refine (C5.out _).mono ?_); rintro e' W9 ⟨rfl, hA⟩; replace HS : Hid ((fun w' : World => XC w' Y tb tt) W9) := HS.out.below hA; replace HC := Lib.hid (HC.out.below hA); replace HG := Lib.hid (HG.out.below hA); replace HB := Lib.hid (bt HB.out hA); clear hA)); refine hK.out _ _ ?_ (fun hHeld => ?_)))
  · first | with_reducible exact HS.out
  clear hK K
  try simp only [Act.put, List.setIfInBounds_toArray, List.set_cons_zero, List.set_cons_succ]
  refine call_next (i := 6) (by kernel_rfl) (by rfl) ?_
  intro o ho K hK
  simp only [List.getElem?_toArray, List.getElem?_cons_succ, List.getElem?_cons_zero, Option.some.injEq] at ho
  subst ho
  first | (fail; refine hK.out _ _ ?_ (fun hHeld => ?_)) | (go_simp; first | (with_reducible refine hK.out _ _ ?_ (fun hHeld => ?_)) | ((first | (go_at_call 22; (with_reducible refine (C4.out _).mono ?_); rintro e' W9 ⟨rfl, hA⟩; replace HS : Hid ((fun w' : World => XC w' Y tb tt) W9) := HS.out.below hA; replace HC := Lib.hid (HC.out.below hA); replace HG := Lib.hid (HG.out.below hA); replace HB := Lib.hid (bt HB.out hA); clear hA) | (go_at_call 22; (with_reducible refine (C5.out _).mono ?_); rintro e' W9 ⟨rfl, hA⟩; replace HS : Hid ((fun w' : World => XC w' Y tb tt) W9) := HS.out.below hA; replace HC := Lib.hid (HC.out.below hA); replace HG := Lib.hid (HG.out.below hA); replace HB := Lib.hid (bt HB.out hA); clear hA)); refine hK.out _ _ ?_ (fun hHeld => ?_)))
  · first | with_reducible exact HS.out
  clear hK K
  try simp only [Act.put, List.setIfInBounds_toArray, List.set_cons_zero, List.set_cons_succ]
  first | (refine tw (i := 7) (v := ?_) ?_ hHeld ?_; rotate_left; focus (intro w hSw; (try dsimp only at hSw); (try simp only [XC] at hSw); go_simp; (try with_reducible rfl); done)) | refine tn (i := 7) hHeld ?_
  try simp only [Act.put, List.setIfInBounds_toArray, List.set_cons_zero, List.set_cons_succ]
  refine wpAnyH_done (by kernel_rfl) ?_ _
  clear HS
  go_wp2_with fail
  rw [rounds_succ]
  clear HG C2 C3 C4 C5
  go_wp2_with fail
  replace HB := Lib.hid HB.out.drew
  have HS : Hid ((fun w' : World => FC w' w.heap.size ⟨n, fb, ft, tb, tt, s, a, b⟩) W9.drew) := HC.out
  refine wp_region_held_drew (S := (fun w' : World => FC w' w.heap.size ⟨n, fb, ft, tb, tt, s, a, b⟩)) (by kernel_rfl) ?_ (fun hHeld => ?_)
  · first | with_reducible exact HS.out
  first | (refine tw (i := 0) (v := ?_) ?_ hHeld ?_; rotate_left; focus (intro w hSw; (try dsimp only at hSw); (try simp only [FC] at hSw); go_simp; (try with_reducible rfl); done)) | refine tn (i := 0) hHeld ?_
  try simp only [Act.put, List.setIfInBounds_toArray, List.set_cons_zero, List.set_cons_succ]
  first | (refine tw (i := 1) (v := ?_) ?_ hHeld ?_; rotate_left; focus (intro w hSw; (try dsimp only at hSw); (try simp only [FC] at hSw); go_simp; (try with_reducible rfl); done)) | refine tn (i := 1) hHeld ?_
  try simp only [Act.put, List.setIfInBounds_toArray, List.set_cons_zero, List.set_cons_succ]
  first | (refine tw (i := 2) (v := ?_) ?_ hHeld ?_; rotate_left; focus (intro w hSw; (try dsimp only at hSw); (try simp only [FC] at hSw); go_simp; (try with_reducible rfl); done)) | refine tn (i := 2) hHeld ?_
  try simp only [Act.put, List.setIfInBounds_toArray, List.set_cons_zero, List.set_cons_succ]
  first | (refine tw (i := 4) (v := ?_) ?_ hHeld ?_; rotate_left; focus (intro w hSw; (try dsimp only at hSw); (try simp only [FC] at hSw); go_simp; (try with_reducible rfl); done)) | refine tn (i := 4) hHeld ?_
  try simp only [Act.put, List.setIfInBounds_toArray, List.set_cons_zero, List.set_cons_succ]
  first | (refine tw (i := 5) (v := ?_) ?_ hHeld ?_; rotate_left; focus (intro w hSw; (try dsimp only at hSw); (try simp only [FC] at hSw); go_simp; (try with_reducible rfl); done)) | refine tn (i := 5) hHeld ?_
  try simp only [Act.put, List.setIfInBounds_toArray, List.set_cons_zero, List.set_cons_succ]
  first | (refine tw (i := 7) (v := ?_) ?_ hHeld ?_; rotate_left; focus (intro w hSw; (try dsimp only at hSw); (try simp only [FC] at hSw); go_simp; (try with_reducible rfl); done)) | refine tn (i := 7) hHeld ?_
  try simp only [Act.put, List.setIfInBounds_toArray, List.set_cons_zero, List.set_cons_succ]
  first | (refine tw (i := 8) (v := ?_) ?_ hHeld ?_; rotate_left; focus (intro w hSw; (try dsimp only at hSw); (try simp only [FC] at hSw); go_simp; (try with_reducible rfl); done)) | refine tn (i := 8) hHeld ?_
  try simp only [Act.put, List.setIfInBounds_toArray, List.set_cons_zero, List.set_cons_succ]
  refine call_next (i := 3) (by kernel_rfl) (by rfl) ?_
  intro o ho K hK
  simp only [List.getElem?_toArray, List.getElem?_cons_succ, List.getElem?_cons_zero, Option.some.injEq] at ho
  subst ho
  first | (fail; refine hK.out _ _ ?_ (fun hHeld => ?_)) | (go_simp; first | (with_reducible refine hK.out _ _ ?_ (fun hHeld => ?_)) | ((first | (go_at_call 22; (with_reducible refine (C6.out _).mono ?_); rintro e' W9 ⟨rfl, hA⟩; replace HS : Hid ((fun w' : World => FC w' w.heap.size ⟨n, fb, ft, tb, tt, s, a, b⟩) W9) := HS.out.below hA; replace HB := Lib.hid (bt HB.out hA); clear hA) | (go_at_call 22; (with_reducible refine (C7.out _).mono ?_); rintro e' W9 ⟨rfl, hA⟩; replace HS : Hid ((fun w' : World => FC w' w.heap.size ⟨n, fb, ft, tb, tt, s, a, b⟩) W9) := HS.out.below hA; replace HB := Lib.hid (bt HB.out hA); clear hA) | (go_at_call 42; (with_reducible refine (C8.out _).mono ?_); rintro e' W9 ⟨rfl, hA⟩; replace HS : Hid ((fun w' : World => FC w' w.heap.size ⟨n, fb, ft, tb, tt, s, a, b⟩) W9) := HS.out.below hA; replace HB := Lib.hid (bt HB.out hA); clear hA)); refine hK.out _ _ ?_ (fun hHeld => ?_)))
  · first | with_reducible exact HS.out
  clear hK K
  try simp only [Act.put, List.setIfInBounds_toArray, List.set_cons_zero, List.set_cons_succ]
  refine call_next (i := 6) (by kernel_rfl) (by rfl) ?_
  intro o ho K hK
  simp only [List.getElem?_toArray, List.getElem?_cons_succ, List.getElem?_cons_zero, Option.some.injEq] at ho
  subst ho
  first | (fail; refine hK.out _ _ ?_ (fun hHeld => ?_)) | (go_simp; first | (with_reducible refine hK.out _ _ ?_ (fun hHeld => ?_)) | ((first | (go_at_call 22; (with_reducible refine (C6.out _).mono ?_); rintro e' W9 ⟨rfl, hA⟩; replace HS : Hid ((fun w' : World => FC w' w.heap.size ⟨n, fb, ft, tb, tt, s, a, b⟩) W9) := HS.out.below hA; replace HB := Lib.hid (bt HB.out hA); clear hA) | (go_at_call 22; (with_reducible refine (C7.out _).mono ?_); rintro e' W9 ⟨rfl, hA⟩; replace HS : Hid ((fun w' : World => FC w' w.heap.size ⟨n, fb, ft, tb, tt, s, a, b⟩) W9) := HS.out.below hA; replace HB := Lib.hid (bt HB.out hA); clear hA) | (go_at_call 42; (with_reducible refine (C8.out _).mono ?_); rintro e' W9 ⟨rfl, hA⟩; replace HS : Hid ((fun w' : World => FC w' w.heap.size ⟨n, fb, ft, tb, tt, s, a, b⟩) W9) := HS.out.below hA; replace HB := Lib.hid (bt HB.out hA); clear hA)); refine hK.out _ _ ?_ (fun hHeld => ?_)))
  · first | with_reducible exact HS.out
  clear hK K
  try simp only [Act.put, List.setIfInBounds_toArray, List.set_cons_zero, List.set_cons_succ]
  first | (refine tw (i := 9) (v := ?_) ?_ hHeld ?_; rotate_left; focus (intro w hSw; (try dsimp only at hSw); (try simp only [FC] at hSw); go_simp; (try with_reducible rfl); done)) | refine tn (i := 9) hHeld ?_
  try simp only [Act.put, List.setIfInBounds_toArray, List.set_cons_zero, List.set_cons_succ]
  refine call_next (i := 10) (by kernel_rfl) (by rfl) ?_
  intro o ho K hK
  simp only [List.getElem?_toArray, List.getElem?_cons_succ, List.getElem?_cons_zero, Option.some.injEq] at ho
  subst ho
  first | (fail; refine hK.out _ _ ?_ (fun hHeld => ?_)) | (go_simp; first | (with_reducible refine hK.out _ _ ?_ (fun hHeld => ?_)) | ((first | (go_at_call 22; (with_reducible refine (C6.out _).mono ?_); rintro e' W9 ⟨rfl, hA⟩; replace HS : Hid ((fun w' : World => FC w' w.heap.size ⟨n, fb, ft, tb, tt, s, a, b⟩) W9) := HS.out.below hA; replace HB := Lib.hid (bt HB.out hA); clear hA) | (go_at_call 22; (with_reducible refine (C7.out _).mono ?_); rintro e' W9 ⟨rfl, hA⟩; replace HS : Hid ((fun w' : World => FC w' w.heap.size ⟨n, fb, ft, tb, tt, s, a, b⟩) W9) := HS.out.below hA; replace HB := Lib.hid (bt HB.out hA); clear hA) | (go_at_call 42; (with_reducible refine (C8.out _).mono ?_); rintro e' W9 ⟨rfl, hA⟩; replace HS : Hid ((fun w' : World => FC w' w.heap.size ⟨n, fb, ft, tb, tt, s, a, b⟩) W9) := HS.out.below hA; replace HB := Lib.hid (bt HB.out hA); clear hA)); refine hK.out _ _ ?_ (fun hHeld => ?_)))
  · first | with_reducible exact HS.out
  clear hK K
  try simp only [Act.put, List.setIfInBounds_toArray, List.set_cons_zero, List.set_cons_succ]
  first | (refine tw (i := 11) (v := ?_) ?_ hHeld ?_; rotate_left; focus (intro w hSw; (try dsimp only at hSw); (try simp only [FC] at hSw); go_simp; (try with_reducible rfl); done)) | refine tn (i := 11) hHeld ?_
  try simp only [Act.put, List.setIfInBounds_toArray, List.set_cons_zero, List.set_cons_succ]
  first | (refine tw (i := 12) (v := ?_) ?_ hHeld ?_; rotate_left; focus (intro w hSw; (try dsimp only at hSw); (try simp only [FC] at hSw); go_simp; (try with_reducible rfl); done)) | refine tn (i := 12) hHeld ?_
  try simp only [Act.put, List.setIfInBounds_toArray, List.set_cons_zero, List.set_cons_succ]
  first | (refine tw (i := 13) (v := ?_) ?_ hHeld ?_; rotate_left; focus (intro w hSw; (try dsimp only at hSw); (try simp only [FC] at hSw); go_simp; (try with_reducible rfl); done)) | refine tn (i := 13) hHeld ?_
  try simp only [Act.put, List.setIfInBounds_toArray, List.set_cons_zero, List.set_cons_succ]
  first | (refine tw (i := 14) (v := ?_) ?_ hHeld ?_; rotate_left; focus (intro w hSw; (try dsimp only at hSw); (try simp only [FC] at hSw); go_simp; (try with_reducible rfl); done)) | refine tn (i := 14) hHeld ?_
  try simp only [Act.put, List.setIfInBounds_toArray, List.set_cons_zero, List.set_cons_succ]
  refine wpAnyH_done (by kernel_rfl) ?_ _
  go_wp2
  go_ret2
  exact ⟨rfl, HB.out⟩
set_option maxRecDepth 20000 in
set_option maxHeartbeats 6400000 in
theorem wputf_ok0 {n fb ft tb tt s a : Int} {b : ByteArray} (w : World) (hb : b.size ≤ 100000) (p1 : decide (0 ≤ n ∧ n ≤ 1) = true) (p2 : idB fb ft 1 = true) (p3 : idB tb tt 0 = true) (p4 : decide (0 ≤ s ∧ s ≤ 281474976710655) = true) (p5 : decide (0 ≤ a ∧ a ≤ 281474976710655) = true) (h0 : ¬ (s = 0 ∧ b.size ≠ 0)) (m0 : (s == 0) = true) (n1' : (b.toList == []) = true) (n2' : b.toList.isEmpty = true) (n3' : b.toList = []) : Calls Try.prog 15 #[FV n fb ft tb tt s a b] w fun e' w' => e' = .returned (.tuple #[.string (fputS ⟨n, fb, ft, tb, tt, s, a, b⟩), .int .i64 (fputE ⟨n, fb, ft, tb, tt, s, a, b⟩)]) ∧ Below w.heap.size w w' := by
  have hc : fchk ⟨n, fb, ft, tb, tt, s, a, b⟩ = 0 := by
    unfold fchk
    rw [if_neg (by simp only [p1, p2, p3, cntB, p4, p5]; simp), if_neg h0]
  obtain ⟨e1, e2⟩ := fput_good hc
  rw [e1, e2]
  clear e1 e2 hc h0
  have q1 := of_decide_eq_true p1
  have q2 := of_decide_eq_true p2
  have q3 := of_decide_eq_true p3
  have q4 := of_decide_eq_true p4
  have q5 := of_decide_eq_true p5
  dsimp only [fhead]
  have hz0 : (⟨#[]⟩ : ByteArray).size = 0 := rfl
  have z1 := putS_size ⟨#[]⟩ n 1
  have C1 := Lib.hid (fun w => put_any ⟨#[]⟩ n 1 w (by omega) (by omega))
  obtain ⟨t1, ht⟩ : ∃ t, putS ⟨#[]⟩ n 1 = t := ⟨_, rfl⟩
  rw [ht] at C1 z1 ⊢
  clear ht
  have z2 := putS_size t1 fb 4
  have C2 := Lib.hid (fun w => put_any t1 fb 4 w (by omega) (by omega))
  obtain ⟨t2, ht⟩ : ∃ t, putS t1 fb 4 = t := ⟨_, rfl⟩
  rw [ht] at C2 z2 ⊢
  clear ht
  have z3 := putS_size t2 ft 4
  have C3 := Lib.hid (fun w => put_any t2 ft 4 w (by omega) (by omega))
  obtain ⟨t3, ht⟩ : ∃ t, putS t2 ft 4 = t := ⟨_, rfl⟩
  rw [ht] at C3 z3 ⊢
  clear ht
  have z4 := putS_size t3 tb 4
  have C4 := Lib.hid (fun w => put_any t3 tb 4 w (by omega) (by omega))
  obtain ⟨t4, ht⟩ : ∃ t, putS t3 tb 4 = t := ⟨_, rfl⟩
  rw [ht] at C4 z4 ⊢
  clear ht
  have z5 := putS_size t4 tt 4
  have C5 := Lib.hid (fun w => put_any t4 tt 4 w (by omega) (by omega))
  obtain ⟨t5, ht⟩ : ∃ t, putS t4 tt 4 = t := ⟨_, rfl⟩
  rw [ht] at C5 z5 ⊢
  clear ht
  have z6 := putS_size t5 s 6
  have C6 := Lib.hid (fun w => put_any t5 s 6 w (by omega) (by omega))
  obtain ⟨t6, ht⟩ : ∃ t, putS t5 s 6 = t := ⟨_, rfl⟩
  rw [ht] at C6 z6 ⊢
  clear ht
  have z7 := putS_size t6 a 6
  have C7 := Lib.hid (fun w => put_any t6 a 6 w (by omega) (by omega))
  obtain ⟨t7, ht⟩ : ∃ t, putS t6 a 6 = t := ⟨_, rfl⟩
  rw [ht] at C7 z7 ⊢
  clear ht
  have hs9 : ¬ 9223372036854775807 < t7.size + b.size := by omega
  have C8 := Lib.hid (fun w => sealput_any 9 (t7 ++ b) w (by decide) (by rw [ByteArray.size_append]; omega))
  clear z1 z2 z3 z4 z5 z6 z7 hz0 q1 q2 q3 q4 q5 hb
  generalize sealS 9 (t7 ++ b) = X1 at *
  generalize putE 9 (t7 ++ b) = X2 at *
  have HC := Lib.hid (FC.new w ⟨n, fb, ft, tb, tt, s, a, b⟩ 45)
  have HB : Below w.heap.size w (w.alloc (.cells #[.int .i64 n, .int .i64 fb, .int .i64 ft, .int .i64 tb, .int .i64 tt, .int .i64 s, .int .i64 a, .string b] 45)) := (Below.refl _ _).alloc (Nat.le_refl _) _
  obtain ⟨c0, c1, c2, c3, c4, c5, c6, c7⟩ := id HC.out
  go_enter Try.func15, Try.ntmps15
  go_wp2_with fail
  generalize w.alloc (.cells #[.int .i64 n, .int .i64 fb, .int .i64 ft, .int .i64 tb, .int .i64 tt, .int .i64 s, .int .i64 a, .string b] 45) = W1 at *
  refine (wwithin_any _ _ _).mono ?_
  rintro e' W ⟨rfl, hW⟩
  subst hW
  rw [p1]
  go_wp2_with fail
  refine (ident_any _ _ _ _).mono ?_
  rintro e' W ⟨rfl, hA⟩
  replace HC := Lib.hid (HC.out.below hA)
  replace HB := bt HB hA
  replace c0 := bkeep hA c0
  replace c1 := bkeep hA c1
  replace c2 := bkeep hA c2
  replace c3 := bkeep hA c3
  replace c4 := bkeep hA c4
  replace c5 := bkeep hA c5
  replace c6 := bkeep hA c6
  replace c7 := bkeep hA c7
  clear hA
  rw [p2]
  go_wp2_with fail
  refine (ident_any _ _ _ _).mono ?_
  rintro e' W ⟨rfl, hA⟩
  replace HC := Lib.hid (HC.out.below hA)
  replace HB := bt HB hA
  replace c0 := bkeep hA c0
  replace c1 := bkeep hA c1
  replace c2 := bkeep hA c2
  replace c3 := bkeep hA c3
  replace c4 := bkeep hA c4
  replace c5 := bkeep hA c5
  replace c6 := bkeep hA c6
  replace c7 := bkeep hA c7
  clear hA
  rw [p3]
  go_wp2_with fail
  refine (wwithin_any _ _ _).mono ?_
  rintro e' W ⟨rfl, hW⟩
  subst hW
  rw [p4]
  go_wp2_with fail
  refine (wwithin_any _ _ _).mono ?_
  rintro e' W ⟨rfl, hW⟩
  subst hW
  rw [p5]
  go_wp2_with fail
  refine (C1.out _).mono ?_
  rintro e' W5 ⟨rfl, hA⟩
  replace HC := Lib.hid (HC.out.below hA)
  replace HB := bt HB hA
  replace c0 := bkeep hA c0
  replace c1 := bkeep hA c1
  replace c2 := bkeep hA c2
  replace c3 := bkeep hA c3
  replace c4 := bkeep hA c4
  replace c5 := bkeep hA c5
  replace c6 := bkeep hA c6
  replace c7 := bkeep hA c7
  clear hA
  go_wp2_with fail
  have HG := Lib.hid (IC.new W5 fb ft tb tt 43)
  have hA := (Below.refl W5.heap.size W5).alloc (Nat.le_refl _) (.cells #[.int .i64 fb, .int .i64 ft, .int .i64 tb, .int .i64 tt] 43)
  replace HC := Lib.hid (HC.out.below hA)
  replace HB := Lib.hid (bt HB hA)
  clear hA
  clear c0 c1 c2 c3 c4 c5 c6 c7
  generalize W5.alloc (.cells #[.int .i64 fb, .int .i64 ft, .int .i64 tb, .int .i64 tt] 43) = W6 at *
  generalize W5.heap.size = G at *
  clear p1 p2 p3 p4 p5 C1
  refine wp_loop_rounds 3 ?_
  rw [rounds_succ]
  obtain ⟨g0, g1, g2, g3⟩ := id HG.out
  go_wp2_with fail
  clear g0 g1 g2 g3
  have HS := Lib.hid (XC.new W6 fb ft 43)
  have hA := (Below.refl W6.heap.size W6).alloc (Nat.le_refl _) (.cells #[.int .i64 fb, .int .i64 ft] 43)
  replace HC := Lib.hid (HC.out.below hA)
  replace HG := Lib.hid (HG.out.below hA)
  replace HB := Lib.hid (bt HB.out hA)
  clear hA
  generalize W6.alloc (.cells #[.int .i64 fb, .int .i64 ft] 43) = W7 at *
  generalize W6.heap.size = X at *
  replace HC : Hid (FC W7.drew w.heap.size ⟨n, fb, ft, tb, tt, s, a, b⟩) := HC.out
  replace HG : Hid (IC W7.drew G fb ft tb tt) := HG.out
  replace HB := Lib.hid HB.out.drew
  replace HS : Hid ((fun w' : World => XC w' X fb ft) W7.drew) := HS.out
  refine wp_region_held_drew (S := (fun w' : World => XC w' X fb ft)) (by kernel_rfl) ?_ (fun hHeld => ?_)
  · first | with_reducible exact HS.out
  first | (refine tw (i := 0) (v := ?_) ?_ hHeld ?_; rotate_left; focus (intro w hSw; (try dsimp only at hSw); (try simp only [XC] at hSw); go_simp; (try with_reducible rfl); done)) | refine tn (i := 0) hHeld ?_
  try simp only [Act.put, List.setIfInBounds_toArray, List.set_cons_zero, List.set_cons_succ]
  first | (refine tw (i := 1) (v := ?_) ?_ hHeld ?_; rotate_left; focus (intro w hSw; (try dsimp only at hSw); (try simp only [XC] at hSw); go_simp; (try with_reducible rfl); done)) | refine tn (i := 1) hHeld ?_
  try simp only [Act.put, List.setIfInBounds_toArray, List.set_cons_zero, List.set_cons_succ]
  first | (refine tw (i := 2) (v := ?_) ?_ hHeld ?_; rotate_left; focus (intro w hSw; (try dsimp only at hSw); (try simp only [XC] at hSw); go_simp; (try with_reducible rfl); done)) | refine tn (i := 2) hHeld ?_
  try simp only [Act.put, List.setIfInBounds_toArray, List.set_cons_zero, List.set_cons_succ]
  first | (refine tw (i := 4) (v := ?_) ?_ hHeld ?_; rotate_left; focus (intro w hSw; (try dsimp only at hSw); (try simp only [XC] at hSw); go_simp; (try with_reducible rfl); done)) | refine tn (i := 4) hHeld ?_
  try simp only [Act.put, List.setIfInBounds_toArray, List.set_cons_zero, List.set_cons_succ]
  first | (refine tw (i := 5) (v := ?_) ?_ hHeld ?_; rotate_left; focus (intro w hSw; (try dsimp only at hSw); (try simp only [XC] at hSw); go_simp; (try with_reducible rfl); done)) | refine tn (i := 5) hHeld ?_
  try simp only [Act.put, List.setIfInBounds_toArray, List.set_cons_zero, List.set_cons_succ]
  refine call_next (i := 3) (by kernel_rfl) (by rfl) ?_
  intro o ho K hK
  simp only [List.getElem?_toArray, List.getElem?_cons_succ, List.getElem?_cons_zero, Option.some.injEq] at ho
  subst ho
  first | (fail; refine hK.out _ _ ?_ (fun hHeld => ?_)) | (go_simp; first | (with_reducible refine hK.out _ _ ?_ (fun hHeld => ?_)) | ((first | (go_at_call 22; (with_reducible refine (C2.out _).mono ?_); rintro e' W9 ⟨rfl, hA⟩; replace HS : Hid ((fun w' : World => XC w' X fb ft) W9) := HS.out.below hA; replace HC := Lib.hid (HC.out.below hA); replace HG := Lib.hid (HG.out.below hA); replace HB := Lib.hid (bt HB.out hA); clear hA) | (go_at_call 22; (with_reducible refine (C3.out _).mono ?_); rintro e' W9 ⟨rfl, hA⟩; replace HS : Hid ((fun w' : World => XC w' X fb ft) W9) := HS.out.below hA; replace HC := Lib.hid (HC.out.below hA); replace HG := Lib.hid (HG.out.below hA); replace HB := Lib.hid (bt HB.out hA); clear hA)); refine hK.out _ _ ?_ (fun hHeld => ?_)))
  · first | with_reducible exact HS.out
  clear hK K
  try simp only [Act.put, List.setIfInBounds_toArray, List.set_cons_zero, List.set_cons_succ]
  refine call_next (i := 6) (by kernel_rfl) (by rfl) ?_
  intro o ho K hK
  simp only [List.getElem?_toArray, List.getElem?_cons_succ, List.getElem?_cons_zero, Option.some.injEq] at ho
  subst ho
  first | (fail; refine hK.out _ _ ?_ (fun hHeld => ?_)) | (go_simp; first | (with_reducible refine hK.out _ _ ?_ (fun hHeld => ?_)) | ((first | (go_at_call 22; (with_reducible refine (C2.out _).mono ?_); rintro e' W9 ⟨rfl, hA⟩; replace HS : Hid ((fun w' : World => XC w' X fb ft) W9) := HS.out.below hA; replace HC := Lib.hid (HC.out.below hA); replace HG := Lib.hid (HG.out.below hA); replace HB := Lib.hid (bt HB.out hA); clear hA) | (go_at_call 22; (with_reducible refine (C3.out _).mono ?_); rintro e' W9 ⟨rfl, hA⟩; replace HS : Hid ((fun w' : World => XC w' X fb ft) W9) := HS.out.below hA; replace HC := Lib.hid (HC.out.below hA); replace HG := Lib.hid (HG.out.below hA); replace HB := Lib.hid (bt HB.out hA); clear hA)); refine hK.out _ _ ?_ (fun hHeld => ?_)))
  · first | with_reducible exact HS.out
  clear hK K
  try simp only [Act.put, List.setIfInBounds_toArray, List.set_cons_zero, List.set_cons_succ]
  first | (refine tw (i := 7) (v := ?_) ?_ hHeld ?_; rotate_left; focus (intro w hSw; (try dsimp only at hSw); (try simp only [XC] at hSw); go_simp; (try with_reducible rfl); done)) | refine tn (i := 7) hHeld ?_
  try simp only [Act.put, List.setIfInBounds_toArray, List.set_cons_zero, List.set_cons_succ]
  refine wpAnyH_done (by kernel_rfl) ?_ _
  clear HS
  go_wp2_with fail
  rw [rounds_succ]
  obtain ⟨g0, g1, g2, g3⟩ := id HG.out
  go_wp2_with fail
  clear g0 g1 g2 g3
  have HS := Lib.hid (XC.new W9 tb tt 43)
  have hA := (Below.refl W9.heap.size W9).alloc (Nat.le_refl _) (.cells #[.int .i64 tb, .int .i64 tt] 43)
  replace HC := Lib.hid (HC.out.below hA)
  replace HG := Lib.hid (HG.out.below hA)
  replace HB := Lib.hid (bt HB.out hA)
  clear hA
  generalize W9.alloc (.cells #[.int .i64 tb, .int .i64 tt] 43) = W8 at *
  generalize W9.heap.size = Y at *
  replace HC : Hid (FC W8.drew w.heap.size ⟨n, fb, ft, tb, tt, s, a, b⟩) := HC.out
  replace HG : Hid (IC W8.drew G fb ft tb tt) := HG.out
  replace HB := Lib.hid HB.out.drew
  replace HS : Hid ((fun w' : World => XC w' Y tb tt) W8.drew) := HS.out
  refine wp_region_held_drew (S := (fun w' : World => XC w' Y tb tt)) (by kernel_rfl) ?_ (fun hHeld => ?_)
  · first | with_reducible exact HS.out
  first | (refine tw (i := 0) (v := ?_) ?_ hHeld ?_; rotate_left; focus (intro w hSw; (try dsimp only at hSw); (try simp only [XC] at hSw); go_simp; (try with_reducible rfl); done)) | refine tn (i := 0) hHeld ?_
  try simp only [Act.put, List.setIfInBounds_toArray, List.set_cons_zero, List.set_cons_succ]
  first | (refine tw (i := 1) (v := ?_) ?_ hHeld ?_; rotate_left; focus (intro w hSw; (try dsimp only at hSw); (try simp only [XC] at hSw); go_simp; (try with_reducible rfl); done)) | refine tn (i := 1) hHeld ?_
  try simp only [Act.put, List.setIfInBounds_toArray, List.set_cons_zero, List.set_cons_succ]
  first | (refine tw (i := 2) (v := ?_) ?_ hHeld ?_; rotate_left; focus (intro w hSw; (try dsimp only at hSw); (try simp only [XC] at hSw); go_simp; (try with_reducible rfl); done)) | refine tn (i := 2) hHeld ?_
  try simp only [Act.put, List.setIfInBounds_toArray, List.set_cons_zero, List.set_cons_succ]
  first | (refine tw (i := 4) (v := ?_) ?_ hHeld ?_; rotate_left; focus (intro w hSw; (try dsimp only at hSw); (try simp only [XC] at hSw); go_simp; (try with_reducible rfl); done)) | refine tn (i := 4) hHeld ?_
  try simp only [Act.put, List.setIfInBounds_toArray, List.set_cons_zero, List.set_cons_succ]
  first | (refine tw (i := 5) (v := ?_) ?_ hHeld ?_; rotate_left; focus (intro w hSw; (try dsimp only at hSw); (try simp only [XC] at hSw); go_simp; (try with_reducible rfl); done)) | refine tn (i := 5) hHeld ?_
  try simp only [Act.put, List.setIfInBounds_toArray, List.set_cons_zero, List.set_cons_succ]
  refine call_next (i := 3) (by kernel_rfl) (by rfl) ?_
  intro o ho K hK
  simp only [List.getElem?_toArray, List.getElem?_cons_succ, List.getElem?_cons_zero, Option.some.injEq] at ho
  subst ho
  first | (fail; refine hK.out _ _ ?_ (fun hHeld => ?_)) | (go_simp; first | (with_reducible refine hK.out _ _ ?_ (fun hHeld => ?_)) | ((first | (go_at_call 22; (with_reducible refine (C4.out _).mono ?_); rintro e' W9 ⟨rfl, hA⟩; replace HS : Hid ((fun w' : World => XC w' Y tb tt) W9) := HS.out.below hA; replace HC := Lib.hid (HC.out.below hA); replace HG := Lib.hid (HG.out.below hA); replace HB := Lib.hid (bt HB.out hA); clear hA) | (go_at_call 22; (with_reducible refine (C5.out _).mono ?_); rintro e' W9 ⟨rfl, hA⟩; replace HS : Hid ((fun w' : World => XC w' Y tb tt) W9) := HS.out.below hA; replace HC := Lib.hid (HC.out.below hA); replace HG := Lib.hid (HG.out.below hA); replace HB := Lib.hid (bt HB.out hA); clear hA)); refine hK.out _ _ ?_ (fun hHeld => ?_)))
  · first | with_reducible exact HS.out
  clear hK K
  try simp only [Act.put, List.setIfInBounds_toArray, List.set_cons_zero, List.set_cons_succ]
  refine call_next (i := 6) (by kernel_rfl) (by rfl) ?_
  intro o ho K hK
  simp only [List.getElem?_toArray, List.getElem?_cons_succ, List.getElem?_cons_zero, Option.some.injEq] at ho
  subst ho
  first | (fail; refine hK.out _ _ ?_ (fun hHeld => ?_)) | (go_simp; first | (with_reducible refine hK.out _ _ ?_ (fun hHeld => ?_)) | ((first | (go_at_call 22; (with_reducible refine (C4.out _).mono ?_); rintro e' W9 ⟨rfl, hA⟩; replace HS : Hid ((fun w' : World => XC w' Y tb tt) W9) := HS.out.below hA; replace HC := Lib.hid (HC.out.below hA); replace HG := Lib.hid (HG.out.below hA); replace HB := Lib.hid (bt HB.out hA); clear hA) | (go_at_call 22; (with_reducible refine (C5.out _).mono ?_); rintro e' W9 ⟨rfl, hA⟩; replace HS : Hid ((fun w' : World => XC w' Y tb tt) W9) := HS.out.below hA; replace HC := Lib.hid (HC.out.below hA); replace HG := Lib.hid (HG.out.below hA); replace HB := Lib.hid (bt HB.out hA); clear hA)); refine hK.out _ _ ?_ (fun hHeld => ?_)))
  · first | with_reducible exact HS.out
  clear hK K
  try simp only [Act.put, List.setIfInBounds_toArray, List.set_cons_zero, List.set_cons_succ]
  first | (refine tw (i := 7) (v := ?_) ?_ hHeld ?_; rotate_left; focus (intro w hSw; (try dsimp only at hSw); (try simp only [XC] at hSw); go_simp; (try with_reducible rfl); done)) | refine tn (i := 7) hHeld ?_
  try simp only [Act.put, List.setIfInBounds_toArray, List.set_cons_zero, List.set_cons_succ]
  refine wpAnyH_done (by kernel_rfl) ?_ _
  clear HS
  go_wp2_with fail
  rw [rounds_succ]
  clear HG C2 C3 C4 C5
  go_wp2_with fail
  replace HB := Lib.hid HB.out.drew
  have HS : Hid ((fun w' : World => FC w' w.heap.size ⟨n, fb, ft, tb, tt, s, a, b⟩) W9.drew) := HC.out
  refine wp_region_held_drew (S := (fun w' : World => FC w' w.heap.size ⟨n, fb, ft, tb, tt, s, a, b⟩)) (by kernel_rfl) ?_ (fun hHeld => ?_)
  · first | with_reducible exact HS.out
  first | (refine tw (i := 0) (v := ?_) ?_ hHeld ?_; rotate_left; focus (intro w hSw; (try dsimp only at hSw); (try simp only [FC] at hSw); go_simp; (try with_reducible rfl); done)) | refine tn (i := 0) hHeld ?_
  try simp only [Act.put, List.setIfInBounds_toArray, List.set_cons_zero, List.set_cons_succ]
  first | (refine tw (i := 1) (v := ?_) ?_ hHeld ?_; rotate_left; focus (intro w hSw; (try dsimp only at hSw); (try simp only [FC] at hSw); go_simp; (try with_reducible rfl); done)) | refine tn (i := 1) hHeld ?_
  try simp only [Act.put, List.setIfInBounds_toArray, List.set_cons_zero, List.set_cons_succ]
  first | (refine tw (i := 2) (v := ?_) ?_ hHeld ?_; rotate_left; focus (intro w hSw; (try dsimp only at hSw); (try simp only [FC] at hSw); go_simp; (try with_reducible rfl); done)) | refine tn (i := 2) hHeld ?_
  try simp only [Act.put, List.setIfInBounds_toArray, List.set_cons_zero, List.set_cons_succ]
  first | (refine tw (i := 4) (v := ?_) ?_ hHeld ?_; rotate_left; focus (intro w hSw; (try dsimp only at hSw); (try simp only [FC] at hSw); go_simp; (try with_reducible rfl); done)) | refine tn (i := 4) hHeld ?_
  try simp only [Act.put, List.setIfInBounds_toArray, List.set_cons_zero, List.set_cons_succ]
  first | (refine tw (i := 5) (v := ?_) ?_ hHeld ?_; rotate_left; focus (intro w hSw; (try dsimp only at hSw); (try simp only [FC] at hSw); go_simp; (try with_reducible rfl); done)) | refine tn (i := 5) hHeld ?_
  try simp only [Act.put, List.setIfInBounds_toArray, List.set_cons_zero, List.set_cons_succ]
  first | (refine tw (i := 7) (v := ?_) ?_ hHeld ?_; rotate_left; focus (intro w hSw; (try dsimp only at hSw); (try simp only [FC] at hSw); go_simp; (try with_reducible rfl); done)) | refine tn (i := 7) hHeld ?_
  try simp only [Act.put, List.setIfInBounds_toArray, List.set_cons_zero, List.set_cons_succ]
  first | (refine tw (i := 8) (v := ?_) ?_ hHeld ?_; rotate_left; focus (intro w hSw; (try dsimp only at hSw); (try simp only [FC] at hSw); go_simp; (try with_reducible rfl); done)) | refine tn (i := 8) hHeld ?_
  try simp only [Act.put, List.setIfInBounds_toArray, List.set_cons_zero, List.set_cons_succ]
  refine call_next (i := 3) (by kernel_rfl) (by rfl) ?_
  intro o ho K hK
  simp only [List.getElem?_toArray, List.getElem?_cons_succ, List.getElem?_cons_zero, Option.some.injEq] at ho
  subst ho
  first | (fail; refine hK.out _ _ ?_ (fun hHeld => ?_)) | (go_simp; first | (with_reducible refine hK.out _ _ ?_ (fun hHeld => ?_)) | ((first | (go_at_call 22; (with_reducible refine (C6.out _).mono ?_); rintro e' W9 ⟨rfl, hA⟩; replace HS : Hid ((fun w' : World => FC w' w.heap.size ⟨n, fb, ft, tb, tt, s, a, b⟩) W9) := HS.out.below hA; replace HB := Lib.hid (bt HB.out hA); clear hA) | (go_at_call 22; (with_reducible refine (C7.out _).mono ?_); rintro e' W9 ⟨rfl, hA⟩; replace HS : Hid ((fun w' : World => FC w' w.heap.size ⟨n, fb, ft, tb, tt, s, a, b⟩) W9) := HS.out.below hA; replace HB := Lib.hid (bt HB.out hA); clear hA) | (go_at_call 42; (with_reducible refine (C8.out _).mono ?_); rintro e' W9 ⟨rfl, hA⟩; replace HS : Hid ((fun w' : World => FC w' w.heap.size ⟨n, fb, ft, tb, tt, s, a, b⟩) W9) := HS.out.below hA; replace HB := Lib.hid (bt HB.out hA); clear hA)); refine hK.out _ _ ?_ (fun hHeld => ?_)))
  · first | with_reducible exact HS.out
  clear hK K
  try simp only [Act.put, List.setIfInBounds_toArray, List.set_cons_zero, List.set_cons_succ]
  refine call_next (i := 6) (by kernel_rfl) (by rfl) ?_
  intro o ho K hK
  simp only [List.getElem?_toArray, List.getElem?_cons_succ, List.getElem?_cons_zero, Option.some.injEq] at ho
  subst ho
  first | (fail; refine hK.out _ _ ?_ (fun hHeld => ?_)) | (go_simp; first | (with_reducible refine hK.out _ _ ?_ (fun hHeld => ?_)) | ((first | (go_at_call 22; (with_reducible refine (C6.out _).mono ?_); rintro e' W9 ⟨rfl, hA⟩; replace HS : Hid ((fun w' : World => FC w' w.heap.size ⟨n, fb, ft, tb, tt, s, a, b⟩) W9) := HS.out.below hA; replace HB := Lib.hid (bt HB.out hA); clear hA) | (go_at_call 22; (with_reducible refine (C7.out _).mono ?_); rintro e' W9 ⟨rfl, hA⟩; replace HS : Hid ((fun w' : World => FC w' w.heap.size ⟨n, fb, ft, tb, tt, s, a, b⟩) W9) := HS.out.below hA; replace HB := Lib.hid (bt HB.out hA); clear hA) | (go_at_call 42; (with_reducible refine (C8.out _).mono ?_); rintro e' W9 ⟨rfl, hA⟩; replace HS : Hid ((fun w' : World => FC w' w.heap.size ⟨n, fb, ft, tb, tt, s, a, b⟩) W9) := HS.out.below hA; replace HB := Lib.hid (bt HB.out hA); clear hA)); refine hK.out _ _ ?_ (fun hHeld => ?_)))
  · first | with_reducible exact HS.out
  clear hK K
  try simp only [Act.put, List.setIfInBounds_toArray, List.set_cons_zero, List.set_cons_succ]
  first | (refine tw (i := 9) (v := ?_) ?_ hHeld ?_; rotate_left; focus (intro w hSw; (try dsimp only at hSw); (try simp only [FC] at hSw); go_simp; (try with_reducible rfl); done)) | refine tn (i := 9) hHeld ?_
  try simp only [Act.put, List.setIfInBounds_toArray, List.set_cons_zero, List.set_cons_succ]
  refine call_next (i := 10) (by kernel_rfl) (by rfl) ?_
  intro o ho K hK
  simp only [List.getElem?_toArray, List.getElem?_cons_succ, List.getElem?_cons_zero, Option.some.injEq] at ho
  subst ho
  first | (fail; refine hK.out _ _ ?_ (fun hHeld => ?_)) | (go_simp; first | (with_reducible refine hK.out _ _ ?_ (fun hHeld => ?_)) | ((first | (go_at_call 22; (with_reducible refine (C6.out _).mono ?_); rintro e' W9 ⟨rfl, hA⟩; replace HS : Hid ((fun w' : World => FC w' w.heap.size ⟨n, fb, ft, tb, tt, s, a, b⟩) W9) := HS.out.below hA; replace HB := Lib.hid (bt HB.out hA); clear hA) | (go_at_call 22; (with_reducible refine (C7.out _).mono ?_); rintro e' W9 ⟨rfl, hA⟩; replace HS : Hid ((fun w' : World => FC w' w.heap.size ⟨n, fb, ft, tb, tt, s, a, b⟩) W9) := HS.out.below hA; replace HB := Lib.hid (bt HB.out hA); clear hA) | (go_at_call 42; (with_reducible refine (C8.out _).mono ?_); rintro e' W9 ⟨rfl, hA⟩; replace HS : Hid ((fun w' : World => FC w' w.heap.size ⟨n, fb, ft, tb, tt, s, a, b⟩) W9) := HS.out.below hA; replace HB := Lib.hid (bt HB.out hA); clear hA)); refine hK.out _ _ ?_ (fun hHeld => ?_)))
  · first | with_reducible exact HS.out
  clear hK K
  try simp only [Act.put, List.setIfInBounds_toArray, List.set_cons_zero, List.set_cons_succ]
  first | (refine tw (i := 11) (v := ?_) ?_ hHeld ?_; rotate_left; focus (intro w hSw; (try dsimp only at hSw); (try simp only [FC] at hSw); go_simp; (try with_reducible rfl); done)) | refine tn (i := 11) hHeld ?_
  try simp only [Act.put, List.setIfInBounds_toArray, List.set_cons_zero, List.set_cons_succ]
  first | (refine tw (i := 12) (v := ?_) ?_ hHeld ?_; rotate_left; focus (intro w hSw; (try dsimp only at hSw); (try simp only [FC] at hSw); go_simp; (try with_reducible rfl); done)) | refine tn (i := 12) hHeld ?_
  try simp only [Act.put, List.setIfInBounds_toArray, List.set_cons_zero, List.set_cons_succ]
  first | (refine tw (i := 13) (v := ?_) ?_ hHeld ?_; rotate_left; focus (intro w hSw; (try dsimp only at hSw); (try simp only [FC] at hSw); go_simp; (try with_reducible rfl); done)) | refine tn (i := 13) hHeld ?_
  try simp only [Act.put, List.setIfInBounds_toArray, List.set_cons_zero, List.set_cons_succ]
  first | (refine tw (i := 14) (v := ?_) ?_ hHeld ?_; rotate_left; focus (intro w hSw; (try dsimp only at hSw); (try simp only [FC] at hSw); go_simp; (try with_reducible rfl); done)) | refine tn (i := 14) hHeld ?_
  try simp only [Act.put, List.setIfInBounds_toArray, List.set_cons_zero, List.set_cons_succ]
  refine wpAnyH_done (by kernel_rfl) ?_ _
  go_wp2
  go_ret2
  exact ⟨rfl, HB.out⟩
theorem wputf_any {n fb ft tb tt s a : Int} {b : ByteArray} (w : World) (hb : b.size ≤ 100000) : Calls Try.prog 15 #[FV n fb ft tb tt s a b] w fun e' w' => e' = .returned (.tuple #[.string (fputS ⟨n, fb, ft, tb, tt, s, a, b⟩), .int .i64 (fputE ⟨n, fb, ft, tb, tt, s, a, b⟩)]) ∧ Below w.heap.size w w' := by
  by_cases h : decide (0 ≤ n ∧ n ≤ 1) = false ∨ idB fb ft 1 = false ∨ idB tb tt 0 = false ∨ cntB s = false ∨ cntB a = false
  · exact wputf_rng w h
  · simp only [not_or, Bool.not_eq_false] at h
    obtain ⟨p1, p2, p3, p4, p5⟩ := h
    by_cases hs : s = 0
    · subst hs
      by_cases hz : b.size = 0
      · have := size0 hz
        subst this
        have hl : (⟨#[]⟩ : ByteArray).toList = [] := by rw [ByteArray.toList_eq]
        exact wputf_ok0 w hb p1 p2 p3 p4 p5 (fun h => h.2 rfl) rfl (by rw [hl]; rfl) (by rw [hl]; rfl) hl
      · exact wputf_form w p1 p2 p3 p5 hz
    · exact wputf_ok w hb p1 p2 p3 p4 p5 (fun h => hs h.1) (beq_eq_false_iff_ne.2 hs)
end Go.Proofs.Ytemfdmbjlmiopaa
