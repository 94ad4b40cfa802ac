/-
  The statement MarksReads.
-/
import Derived.Test.YtlgbimpbdofloaaMarksRef2
import Derived.Test.YtlgbimpbdofloaaDraw
namespace Go.Proofs.Ytlgbimpbdofloaa
open Go.RowKit
set_option linter.unusedVariables false
set_option linter.unusedSimpArgs false

structure HR (s g n q gb cap : Nat) (bs : List Nat) (bl : List Bool) (w : World) : Prop where
  m : MS w s g n bs
  r : RM w q gb cap bl
  c : w.cell? ⟨q, 0, none⟩ = some (.slice (some ⟨gb, 0, none⟩) n cap)
theorem HR.below {s g n q gb cap : Nat} {bs : List Nat} {bl : List Bool} {w w' : World} (h : HR s g n q gb cap bs bl w) (hb : Below w.heap.size w w') : HR s g n q gb cap bs bl w' := ⟨h.m.below hb, h.r.below hb, bkeep hb h.c⟩
set_option maxHeartbeats 3200000 in
theorem walk_MarksReads (many : Int) (um : (Lit.int .i64 many).wf = true) (t : ByteArray) (ht : t.size ≤ 140737488351232) {w : World} :
    Calls Try.prog 4 #[.int .i64 many, .string t] w fun e w' => e = .returned (.bool true) ∧ Below w.heap.size w w' := by
  have hbd := bounds_i64 um
  clear um
  by_cases hbig : 3000 < (t.size : Int)
  · go_enter Try.func4, Try.ntmps4
    go_wp2_with (go_at_call 7; (with_reducible refine (works_any _).mono ?_); rintro e w1 ⟨rfl, hb1⟩)
    go_ret
    exact ⟨rfl, hb1⟩
  have hRd := fun w => read_any many t w hbd (by omega)
  have hRr := fun w => rread_any many t w hbd (by omega)
  clear hbd
  by_cases he : rdE many t = 0
  · have hA : ∀ w, Calls Try.prog 10 #[.int .i64 many, .string t] w fun e w' => ∃ s g, e = .returned (.tuple #[.pointer (some ⟨s, 0, none⟩), .int .i64 0]) ∧ MS w' s g (nS many) (sb t) ∧ Below w.heap.size w w' := fun w => (hRd w).mono fun e w' h => by
      rcases h with ⟨h, _⟩ | ⟨_, s, g, h1, h2, _, _, h3⟩
      · exact absurd he h
      · exact ⟨s, g, h1, h2, h3⟩
    have hB : ∀ w, Calls Try.prog 14 #[.int .i64 many, .string t] w fun e w' => ∃ q gb cap k, e = .returned (.tuple #[.pointer (some ⟨q, 0, none⟩), .int .i64 0]) ∧ RM w' q gb cap (bmap (nS many) k (sb t)) ∧ nS many ≤ k ∧ Below w.heap.size w w' := fun w => (hRr w).mono fun e w' h => by
      rcases h with ⟨h, _⟩ | ⟨_, q, g, cap, k, h1, h2, h3, h4⟩
      · exact absurd he h
      · exact ⟨q, g, cap, k, h1, h2, h3, h4⟩
    have hA := Lib.hid hA
    have hB := Lib.hid hB
    have hnS : nS many ≤ 1000 := by unfold nS; omega
    clear hRd hRr he
    generalize nS many = n at *
    go_enter Try.func4, Try.ntmps4
    go_wp2_with (first | (go_at_call 7; (with_reducible refine (works_any _).mono ?_); rintro e w1 ⟨rfl, hb1⟩) | (go_at_call 10; (with_reducible refine (hA.out _).mono ?_); rintro e w2 ⟨s, g, rfl, hM2, hb2⟩) | (go_at_call 14; (with_reducible refine (hB.out _).mono ?_); rintro e w3 ⟨q, gb, cp, k, rfl, hR3, hk, hb3⟩))
    have hM3 := hM2.below hb3
    have hlb : (bmap n k (sb t)).length = n := bmap_len _ _ _
    have hc3 := hR3.c0
    rw [hlb] at hc3
    have hss : selB (bmap n k (sb t)) n = sel (sb t) n := selB_sel _ _ _ fun i hi => bmap_get n k (sb t) i hi hk
    have hH3 : HR s g n q gb cp (sb t) (bmap n k (sb t)) w3.drew := HR.below ⟨hM3, hR3, hc3⟩ (bdraws0 w3 1)
    have hbb := bt (bt hb1 hb2) hb3
    have hb3d : Below w.heap.size w w3.drew := hbb.drew
    have hsl := sel_len (sb t) n
    have hgl : gath 2000 (sel (sb t) n) = sel (sb t) n := gath_all (.inr (by omega))
    have hal := fun w h => all_any s g n (sb t) 2000 w h
    rw [hgl] at hal
    have hra := fun w h => rall_any q gb cp (bmap n k (sb t)) w h
    rw [hlb, hss] at hra
    have hma := fun w h => many_any s g n (sb t) w h
    have hal := Lib.hid hal
    have hra := Lib.hid hra
    have hma := Lib.hid hma
    have hsl5 : (sel (sb t) n).length ≤ 5000 := by omega
    clear hlb hss hgl hsl hM2 hM3 hR3 hb1 hb2 hb3
    generalize sel (sb t) n = L at *
    generalize bmap n k (sb t) = bl at *
    refine wp_region_held_drew (S := HR s g n q gb cp (sb t) bl) (by kernel_rfl) ?_ (fun hHeld => ?_)
    · first | exact hH3 | exact hH4 | exact hH5 | exact hH6
    first | (refine tw (i := 0) (v := ?_) ?_ hHeld ?_; rotate_left; focus (intro w hSw; (try dsimp only at hSw); have hSc := hSw.c; go_simp; (try with_reducible rfl); done)) | refine tn (i := 0) hHeld ?_
    try simp only [Act.put, List.setIfInBounds_toArray, List.set_cons_zero, List.set_cons_succ]
    first | (refine tw (i := 1) (v := ?_) ?_ hHeld ?_; rotate_left; focus (intro w hSw; (try dsimp only at hSw); have hSc := hSw.c; go_simp; (try with_reducible rfl); done)) | refine tn (i := 1) hHeld ?_
    try simp only [Act.put, List.setIfInBounds_toArray, List.set_cons_zero, List.set_cons_succ]
    first | (refine tw (i := 2) (v := ?_) ?_ hHeld ?_; rotate_left; focus (intro w hSw; (try dsimp only at hSw); have hSc := hSw.c; go_simp; (try with_reducible rfl); done)) | refine tn (i := 2) hHeld ?_
    try simp only [Act.put, List.setIfInBounds_toArray, List.set_cons_zero, List.set_cons_succ]
    first | (refine tw (i := 3) (v := ?_) ?_ hHeld ?_; rotate_left; focus (intro w hSw; (try dsimp only at hSw); have hSc := hSw.c; go_simp; (try with_reducible rfl); done)) | refine tn (i := 3) hHeld ?_
    try simp only [Act.put, List.setIfInBounds_toArray, List.set_cons_zero, List.set_cons_succ]
    first | (refine tw (i := 5) (v := ?_) ?_ hHeld ?_; rotate_left; focus (intro w hSw; (try dsimp only at hSw); have hSc := hSw.c; go_simp; (try with_reducible rfl); done)) | refine tn (i := 5) hHeld ?_
    try simp only [Act.put, List.setIfInBounds_toArray, List.set_cons_zero, List.set_cons_succ]
    refine call_next (i := 4) (by kernel_rfl) (by rfl) ?_
    intro o ho K hK
    simp only [List.getElem?_toArray, List.getElem?_cons_succ, List.getElem?_cons_zero, Option.some.injEq] at ho
    subst ho
    first | (fail; refine hK.out _ _ ?_ (fun hHeld => ?_)) | (go_simp; first | (with_reducible refine hK.out _ _ ?_ (fun hHeld => ?_)) | ((first | (go_at_call 13; (with_reducible refine (hal.out _ hH3.m).mono ?_); rintro e w4 ⟨⟨v4, rfl, hl4⟩, hb4⟩; have hH4 := hH3.below hb4; have hbb4 := bt hb3d hb4) | (go_at_call 15; (with_reducible refine (hra.out _ hH4.r).mono ?_); rintro e w5 ⟨⟨v5, rfl, hl5⟩, hb5⟩; have hH5 := hH4.below hb5; have hbb5 := bt hbb4 hb5; have hl45 := (hl4.below hb5).lx) | (go_at_call 12; (with_reducible refine (same_same v4 v5 _ _ L w5 hl45 hl5.lx hsl5).mono ?_); rintro e w6 ⟨rfl, hb6⟩; have hH6 := hH5.below hb6; have hbb6 := bt hbb5 hb6) | (go_at_call 16; (with_reducible refine (hma.out _ hH6.m).mono ?_); rintro e wx ⟨rfl, rfl⟩)); refine hK.out _ _ ?_ (fun hHeld => ?_)))
    · first | exact hH3 | exact hH4 | exact hH5 | exact hH6
    clear hK K
    try simp only [Act.put, List.setIfInBounds_toArray, List.set_cons_zero, List.set_cons_succ]
    refine call_next (i := 6) (by kernel_rfl) (by rfl) ?_
    intro o ho K hK
    simp only [List.getElem?_toArray, List.getElem?_cons_succ, List.getElem?_cons_zero, Option.some.injEq] at ho
    subst ho
    first | (fail; refine hK.out _ _ ?_ (fun hHeld => ?_)) | (go_simp; first | (with_reducible refine hK.out _ _ ?_ (fun hHeld => ?_)) | ((first | (go_at_call 13; (with_reducible refine (hal.out _ hH3.m).mono ?_); rintro e w4 ⟨⟨v4, rfl, hl4⟩, hb4⟩; have hH4 := hH3.below hb4; have hbb4 := bt hb3d hb4) | (go_at_call 15; (with_reducible refine (hra.out _ hH4.r).mono ?_); rintro e w5 ⟨⟨v5, rfl, hl5⟩, hb5⟩; have hH5 := hH4.below hb5; have hbb5 := bt hbb4 hb5; have hl45 := (hl4.below hb5).lx) | (go_at_call 12; (with_reducible refine (same_same v4 v5 _ _ L w5 hl45 hl5.lx hsl5).mono ?_); rintro e w6 ⟨rfl, hb6⟩; have hH6 := hH5.below hb6; have hbb6 := bt hbb5 hb6) | (go_at_call 16; (with_reducible refine (hma.out _ hH6.m).mono ?_); rintro e wx ⟨rfl, rfl⟩)); refine hK.out _ _ ?_ (fun hHeld => ?_)))
    · first | exact hH3 | exact hH4 | exact hH5 | exact hH6
    clear hK K
    try simp only [Act.put, List.setIfInBounds_toArray, List.set_cons_zero, List.set_cons_succ]
    refine call_next (i := 7) (by kernel_rfl) (by rfl) ?_
    intro o ho K hK
    simp only [List.getElem?_toArray, List.getElem?_cons_succ, List.getElem?_cons_zero, Option.some.injEq] at ho
    subst ho
    first | (fail; refine hK.out _ _ ?_ (fun hHeld => ?_)) | (go_simp; first | (with_reducible refine hK.out _ _ ?_ (fun hHeld => ?_)) | ((first | (go_at_call 13; (with_reducible refine (hal.out _ hH3.m).mono ?_); rintro e w4 ⟨⟨v4, rfl, hl4⟩, hb4⟩; have hH4 := hH3.below hb4; have hbb4 := bt hb3d hb4) | (go_at_call 15; (with_reducible refine (hra.out _ hH4.r).mono ?_); rintro e w5 ⟨⟨v5, rfl, hl5⟩, hb5⟩; have hH5 := hH4.below hb5; have hbb5 := bt hbb4 hb5; have hl45 := (hl4.below hb5).lx) | (go_at_call 12; (with_reducible refine (same_same v4 v5 _ _ L w5 hl45 hl5.lx hsl5).mono ?_); rintro e w6 ⟨rfl, hb6⟩; have hH6 := hH5.below hb6; have hbb6 := bt hbb5 hb6) | (go_at_call 16; (with_reducible refine (hma.out _ hH6.m).mono ?_); rintro e wx ⟨rfl, rfl⟩)); refine hK.out _ _ ?_ (fun hHeld => ?_)))
    · first | exact hH3 | exact hH4 | exact hH5 | exact hH6
    clear hK K
    try simp only [Act.put, List.setIfInBounds_toArray, List.set_cons_zero, List.set_cons_succ]
    first | (refine tw (i := 8) (v := ?_) ?_ hHeld ?_; rotate_left; focus (intro w hSw; (try dsimp only at hSw); have hSc := hSw.c; go_simp; (try with_reducible rfl); done)) | refine tn (i := 8) hHeld ?_
    try simp only [Act.put, List.setIfInBounds_toArray, List.set_cons_zero, List.set_cons_succ]
    first | (refine tw (i := 9) (v := ?_) ?_ hHeld ?_; rotate_left; focus (intro w hSw; (try dsimp only at hSw); have hSc := hSw.c; go_simp; (try with_reducible rfl); done)) | refine tn (i := 9) hHeld ?_
    try simp only [Act.put, List.setIfInBounds_toArray, List.set_cons_zero, List.set_cons_succ]
    first | (refine tw (i := 11) (v := ?_) ?_ hHeld ?_; rotate_left; focus (intro w hSw; (try dsimp only at hSw); have hSc := hSw.c; go_simp; (try with_reducible rfl); done)) | refine tn (i := 11) hHeld ?_
    try simp only [Act.put, List.setIfInBounds_toArray, List.set_cons_zero, List.set_cons_succ]
    first | (refine tw (i := 12) (v := ?_) ?_ hHeld ?_; rotate_left; focus (intro w hSw; (try dsimp only at hSw); have hSc := hSw.c; go_simp; (try with_reducible rfl); done)) | refine tn (i := 12) hHeld ?_
    try simp only [Act.put, List.setIfInBounds_toArray, List.set_cons_zero, List.set_cons_succ]
    first | (refine tw (i := 13) (v := ?_) ?_ hHeld ?_; rotate_left; focus (intro w hSw; (try dsimp only at hSw); have hSc := hSw.c; go_simp; (try with_reducible rfl); done)) | refine tn (i := 13) hHeld ?_
    try simp only [Act.put, List.setIfInBounds_toArray, List.set_cons_zero, List.set_cons_succ]
    first | (refine tw (i := 14) (v := ?_) ?_ hHeld ?_; rotate_left; focus (intro w hSw; (try dsimp only at hSw); have hSc := hSw.c; go_simp; (try with_reducible rfl); done)) | refine tn (i := 14) hHeld ?_
    try simp only [Act.put, List.setIfInBounds_toArray, List.set_cons_zero, List.set_cons_succ]
    first | (refine tw (i := 15) (v := ?_) ?_ hHeld ?_; rotate_left; focus (intro w hSw; (try dsimp only at hSw); have hSc := hSw.c; go_simp; (try with_reducible rfl); done)) | refine tn (i := 15) hHeld ?_
    try simp only [Act.put, List.setIfInBounds_toArray, List.set_cons_zero, List.set_cons_succ]
    refine call_next (i := 10) (by kernel_rfl) (by rfl) ?_
    intro o ho K hK
    simp only [List.getElem?_toArray, List.getElem?_cons_succ, List.getElem?_cons_zero, Option.some.injEq] at ho
    subst ho
    first | (fail; refine hK.out _ _ ?_ (fun hHeld => ?_)) | (go_simp; first | (with_reducible refine hK.out _ _ ?_ (fun hHeld => ?_)) | ((first | (go_at_call 13; (with_reducible refine (hal.out _ hH3.m).mono ?_); rintro e w4 ⟨⟨v4, rfl, hl4⟩, hb4⟩; have hH4 := hH3.below hb4; have hbb4 := bt hb3d hb4) | (go_at_call 15; (with_reducible refine (hra.out _ hH4.r).mono ?_); rintro e w5 ⟨⟨v5, rfl, hl5⟩, hb5⟩; have hH5 := hH4.below hb5; have hbb5 := bt hbb4 hb5; have hl45 := (hl4.below hb5).lx) | (go_at_call 12; (with_reducible refine (same_same v4 v5 _ _ L w5 hl45 hl5.lx hsl5).mono ?_); rintro e w6 ⟨rfl, hb6⟩; have hH6 := hH5.below hb6; have hbb6 := bt hbb5 hb6) | (go_at_call 16; (with_reducible refine (hma.out _ hH6.m).mono ?_); rintro e wx ⟨rfl, rfl⟩)); refine hK.out _ _ ?_ (fun hHeld => ?_)))
    · first | exact hH3 | exact hH4 | exact hH5 | exact hH6
    clear hK K
    try simp only [Act.put, List.setIfInBounds_toArray, List.set_cons_zero, List.set_cons_succ]
    first | (refine tw (i := 16) (v := ?_) ?_ hHeld ?_; rotate_left; focus (intro w hSw; (try dsimp only at hSw); have hSc := hSw.c; go_simp; (try with_reducible rfl); done)) | refine tn (i := 16) hHeld ?_
    try simp only [Act.put, List.setIfInBounds_toArray, List.set_cons_zero, List.set_cons_succ]
    first | (refine tw (i := 17) (v := ?_) ?_ hHeld ?_; rotate_left; focus (intro w hSw; (try dsimp only at hSw); have hSc := hSw.c; go_simp; (try with_reducible rfl); done)) | refine tn (i := 17) hHeld ?_
    try simp only [Act.put, List.setIfInBounds_toArray, List.set_cons_zero, List.set_cons_succ]
    first | (refine tw (i := 18) (v := ?_) ?_ hHeld ?_; rotate_left; focus (intro w hSw; (try dsimp only at hSw); have hSc := hSw.c; go_simp; (try with_reducible rfl); done)) | refine tn (i := 18) hHeld ?_
    try simp only [Act.put, List.setIfInBounds_toArray, List.set_cons_zero, List.set_cons_succ]
    first | (refine tw (i := 19) (v := ?_) ?_ hHeld ?_; rotate_left; focus (intro w hSw; (try dsimp only at hSw); have hSc := hSw.c; go_simp; (try with_reducible rfl); done)) | refine tn (i := 19) hHeld ?_
    try simp only [Act.put, List.setIfInBounds_toArray, List.set_cons_zero, List.set_cons_succ]
    refine wpAnyH_done (by kernel_rfl) ?_ _
    go_wp2
    go_ret
    exact ⟨rfl, hbb6⟩
  · have hA : ∀ w, Calls Try.prog 10 #[.int .i64 many, .string t] w fun e w' => e = .returned (.tuple #[.pointer none, .int .i64 (rdE many t)]) ∧ Below w.heap.size w w' := fun w => (hRd w).mono fun e w' h => by
      rcases h with ⟨_, h1, h2⟩ | ⟨h, _⟩
      · exact ⟨h1, h2⟩
      · exact absurd h he
    have hB : ∀ w, Calls Try.prog 14 #[.int .i64 many, .string t] w fun e w' => e = .returned (.tuple #[.pointer none, .int .i64 (rdE many t)]) ∧ Below w.heap.size w w' := fun w => (hRr w).mono fun e w' h => by
      rcases h with ⟨_, h1, h2⟩ | ⟨h, _⟩
      · exact ⟨h1, h2⟩
      · exact absurd h he
    have hA := Lib.hid hA
    have hB := Lib.hid hB
    clear hRd hRr
    generalize rdE many t = c at *
    go_enter Try.func4, Try.ntmps4
    go_wp2_with (first | (go_at_call 7; (with_reducible refine (works_any _).mono ?_); rintro e w1 ⟨rfl, hb1⟩) | (go_at_call 10; (with_reducible refine (hA.out _).mono ?_); rintro e w2 ⟨rfl, hb2⟩) | (go_at_call 14; (with_reducible refine (hB.out _).mono ?_); rintro e w3 ⟨rfl, hb3⟩))
    go_quiet (fail)
    go_wp2
    go_ret
    exact ⟨rfl, bdraws (bt (bt hb1 hb2) hb3) _⟩
end Go.Proofs.Ytlgbimpbdofloaa
