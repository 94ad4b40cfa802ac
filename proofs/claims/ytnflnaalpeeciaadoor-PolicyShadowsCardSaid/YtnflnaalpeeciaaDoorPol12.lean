/-
  The law's own words (chapter 42): that it works.
-/
import Derived.Test.YtnflnaalpeeciaaDoorPol11
namespace Go.Proofs.YtnflnaalpeeciaaDoor
open Go.RowKit
set_option linter.unusedVariables false
set_option linter.unusedSimpArgs false
set_option maxRecDepth 20000

def lineS : ByteArray := ⟨#[104, 111, 108, 100, 32, 51, 32, 51]⟩
theorem line_rl : rlS ⟨5, 3, 3⟩ = lineS := by decide +kernel
theorem parse_line (w : World) (hm : ML w) : Calls Tryd.prog 18 #[.string ⟨#[104, 111, 108, 100, 32, 51, 32, 51]⟩] w fun e w' => e = .returned (.tuple #[.agg #[.int .i64 5, .int .i64 3, .int .i64 3], .int .i64 0]) ∧ Below w.heap.size w w' := by
  refine (parse_any lineS w hm (by decide)).mono ?_
  rintro e w' ⟨r, er, h1, rfl, h2⟩
  have h3 : PR3 lineS ⟨5, 3, 3⟩ 0 := .inr (.inl ⟨by decide, by decide, line_rl, rfl⟩)
  obtain ⟨rfl, rfl⟩ := PR3_fun h1 h3
  exact ⟨rfl, h2⟩
def wl : List Rl := [⟨5, 3, 3⟩, ⟨1, 0, 23⟩]
def wp : List Pr := [⟨3, 0, 0, ByteArray.empty, 0, 0, ByteArray.empty⟩, ⟨5, 0, 0, ByteArray.empty, 0, 0, ByteArray.empty⟩]
theorem plan_w : plan wl wp = [(5, 0)] := by decide +kernel
def WS (W : World) (K7 K1 : Nat) : Prop := W.cell? ⟨K7, 0, none⟩ = some (.int .i64 5) ∧ W.cell? ⟨K7, 1, none⟩ = some (.int .i64 3) ∧ W.cell? ⟨K7, 2, none⟩ = some (.int .i64 3) ∧ W.cell? ⟨K1, 0, none⟩ = some (.int .i64 5) ∧ W.cell? ⟨K1, 1, none⟩ = some (.int .i64 3) ∧ W.cell? ⟨K1, 2, none⟩ = some (.int .i64 3)
theorem WS.below {W W' : World} {K7 K1 : Nat} (h : WS W K7 K1) (hb : Below W.heap.size W W') : WS W' K7 K1 := ⟨bkeep hb h.1, bkeep hb h.2.1, bkeep hb h.2.2.1, bkeep hb h.2.2.2.1, bkeep hb h.2.2.2.2.1, bkeep hb h.2.2.2.2.2⟩
theorem rl_eql (W : World) : (binOp .eql 29 (.agg #[.int .i64 5, .int .i64 3, .int .i64 3]) (.agg #[.int .i64 5, .int .i64 3, .int .i64 3])).run Tryd.prog W = .ok (.bool true) W := by simp [go_sem]
set_option maxHeartbeats 3200000 in
theorem works_any (w : World) (hm : ML w) : Calls Tryd.prog 6 #[] w fun e w' => e = .returned (.bool true) ∧ Below w.heap.size w w' := by
  have hE0 : ∀ W, Below w.heap.size w W → (fun (e : Ending) (w' : World) => e = .returned (.bool true) ∧ Below w.heap.size w w') (.returned (.bool true)) W := fun W h => ⟨rfl, h⟩
  generalize (fun (e : Ending) (w' : World) => e = .returned (.bool true) ∧ Below w.heap.size w w') = Pst at *
  replace hE0 := Lib.hid hE0
  have hL0 := Lib.hid (Fl.X.lit FR w wl #[.int .i64 5, .int .i64 3, .int .i64 3, .int .i64 1, .int .i64 0, .int .i64 23] 2 2 rfl rfl)
  have hb0 := Lib.hid (alb w (.cells #[.int .i64 5, .int .i64 3, .int .i64 3, .int .i64 1, .int .i64 0, .int .i64 23] 29))
  have hP := Lib.hid (parse_line _ (hm.below hb0.out))
  have hc0 : Hid ((w.alloc (.cells #[.int .i64 5, .int .i64 3, .int .i64 3, .int .i64 1, .int .i64 0, .int .i64 23] 29)).cell? ⟨w.heap.size, 0, none⟩ = some (.int .i64 5) ∧ (w.alloc (.cells #[.int .i64 5, .int .i64 3, .int .i64 3, .int .i64 1, .int .i64 0, .int .i64 23] 29)).cell? ⟨w.heap.size, 1, none⟩ = some (.int .i64 3) ∧ (w.alloc (.cells #[.int .i64 5, .int .i64 3, .int .i64 3, .int .i64 1, .int .i64 0, .int .i64 23] 29)).cell? ⟨w.heap.size, 2, none⟩ = some (.int .i64 3)) := ⟨by simp [go_sem], by simp [go_sem], by simp [go_sem]⟩
  go_enter Tryd.func6, Tryd.ntmps6
  go_wp2_with (go_at_call 18; (with_reducible refine hP.out.mono ?_); rintro e1 w2 ⟨rfl, hA⟩; have hx := HRl.new w2 29 5 3 3; have hab := alb w2 (.cells #[.int .i64 5, .int .i64 3, .int .i64 3] 29); have hR2 : Hid (WS (w2.alloc (.cells #[.int .i64 5, .int .i64 3, .int .i64 3] 29)) w2.heap.size w.heap.size) := ⟨hx.c0, hx.c1, hx.c2, bkeep hab (bkeep hA hc0.out.1), bkeep hab (bkeep hA hc0.out.2.1), bkeep hab (bkeep hA hc0.out.2.2)⟩; have hL2 := Lib.hid ((hL0.out.below hA).below hab); have hB2 := Lib.hid (bt (bt hb0.out hA) hab); have hr2 := Lib.hid (hR2.out.below (bdrw _)); have hb2 := Lib.hid (bt hB2.out (bdrw _)); clear hx hab hA)
  have hrr := rl_eql
  have hPl := Lib.hid (fun v vm W h1 h2 => plan_any wl v wp vm W h1 h2 (by decide) (by decide))
  have hXp := Lib.hid (fun W : World => Fl.X.lit FP W wp #[.int .i64 3, .int .i64 0, .int .i64 0, .string ⟨#[]⟩, .int .i64 0, .int .i64 0, .string ⟨#[]⟩, .int .i64 5, .int .i64 0, .int .i64 0, .string ⟨#[]⟩, .int .i64 0, .int .i64 0, .string ⟨#[]⟩] 2 2 rfl rfl)
  have hXc := Lib.hid (fun W : World => Fl.X.lit FC W [(5, 0)] #[.int .i64 3, .int .i64 5, .int .i64 0, .string ⟨#[]⟩] 1 1 rfl rfl)
  have hSm := Lib.hid (fun v1 v2 W h1 h2 => same_eq v1 v2 [(5, 0)] W h1 h2 (by decide))
  unfold PE at hPl
  simp only [plan_w] at hPl
  have hs1 : ∀ (W : World) o, (W.alloc o).heap.size = W.heap.size + 1 := fun W o => by simp
  have hXp2 := Lib.hid (fun (W : World) o => hs1 W o ▸ hXp.out (W.alloc o))
  have hXc2 := Lib.hid (fun (W : World) o => hs1 W o ▸ hXc.out (W.alloc o))
  clear hs1
  generalize w2.alloc (.cells #[.int .i64 5, .int .i64 3, .int .i64 3] 29) = Wq at *
  have hlA := Lib.hid (fun o1 => (((hL2.out.below (alb Wq o1)).below (bdrw _))))
  have hlB := Lib.hid (fun o1 o2 => (((hL2.out.below (alb Wq o1)).below (alb _ o2)).below (bdrw _)))
  have hpA := Lib.hid ((hXp.out Wq).below (bdrw _))
  have hpB := Lib.hid (fun o2 => ((hXp.out Wq).below (alb _ o2)).below (bdrw _))
  have hpC := Lib.hid (fun o1 => (hXp2.out Wq o1).below (bdrw _))
  have hcB := Lib.hid (fun o1 => (hXc2.out Wq o1).below (bdrw _))
  have hcC := Lib.hid (fun o2 => ((hXc.out Wq).below (alb _ o2)).below (bdrw _))
  have hbA := Lib.hid (fun o1 => bt (bt hB2.out (alb Wq o1)) (bdrw _))
  have hbB := Lib.hid (fun o1 o2 => bt (bt (bt hB2.out (alb Wq o1)) (alb _ o2)) (bdrw _))
  have hsB := Lib.hid (fun o1 o2 => ((hR2.out.below (alb Wq o1)).below (alb _ o2)).below (bdrw _))
  refine wp_region_held_drew (S := (fun w' => WS w' w2.heap.size w.heap.size)) (by kernel_rfl) ?_ (fun hHeld => ?_)
  · first | with_reducible exact hr2.out | exact hr2.out.below (alb _ _) | exact hsB.out _ _
  first | (refine tw (i := 0) (v := ?_) ?_ hHeld ?_; rotate_left; focus (intro w hSw; (try dsimp only at hSw); (try simp only [WS] at hSw); go_simp; (try with_reducible rfl); done)) | refine tn (i := 0) hHeld ?_
  try simp only [Act.put, List.setIfInBounds_toArray, List.set_cons_zero, List.set_cons_succ]
  first | (refine tw (i := 1) (v := ?_) ?_ hHeld ?_; rotate_left; focus (intro w hSw; (try dsimp only at hSw); (try simp only [WS] at hSw); go_simp; (try with_reducible rfl); done)) | refine tn (i := 1) hHeld ?_
  try simp only [Act.put, List.setIfInBounds_toArray, List.set_cons_zero, List.set_cons_succ]
  first | (refine tw (i := 2) (v := ?_) ?_ hHeld ?_; rotate_left; focus (intro w hSw; (try dsimp only at hSw); (try simp only [WS] at hSw); go_simp; (try with_reducible rfl); done)) | refine tn (i := 2) hHeld ?_
  try simp only [Act.put, List.setIfInBounds_toArray, List.set_cons_zero, List.set_cons_succ]
  first | (refine tw (i := 3) (v := ?_) ?_ hHeld ?_; rotate_left; focus (intro w hSw; (try dsimp only at hSw); (try simp only [WS] at hSw); go_simp; (try with_reducible rfl); done)) | refine tn (i := 3) hHeld ?_
  try simp only [Act.put, List.setIfInBounds_toArray, List.set_cons_zero, List.set_cons_succ]
  first | (refine tw (i := 4) (v := ?_) ?_ hHeld ?_; rotate_left; focus (intro w hSw; (try dsimp only at hSw); (try simp only [WS] at hSw); go_simp; (try with_reducible rfl); done)) | refine tn (i := 4) hHeld ?_
  try simp only [Act.put, List.setIfInBounds_toArray, List.set_cons_zero, List.set_cons_succ]
  first | (refine tw (i := 5) (v := ?_) ?_ hHeld ?_; rotate_left; focus (intro w hSw; (try dsimp only at hSw); (try simp only [WS] at hSw); go_simp; (try with_reducible rfl); done)) | refine tn (i := 5) hHeld ?_
  try simp only [Act.put, List.setIfInBounds_toArray, List.set_cons_zero, List.set_cons_succ]
  first | (refine tw (i := 6) (v := ?_) ?_ hHeld ?_; rotate_left; focus (intro w hSw; (try dsimp only at hSw); (try simp only [WS] at hSw); go_simp; (try with_reducible rfl); done)) | refine tn (i := 6) hHeld ?_
  try simp only [Act.put, List.setIfInBounds_toArray, List.set_cons_zero, List.set_cons_succ]
  first | (refine tw (i := 7) (v := ?_) ?_ hHeld ?_; rotate_left; focus (intro w hSw; (try dsimp only at hSw); (try simp only [WS] at hSw); go_simp; (try with_reducible rfl); done)) | refine tn (i := 7) hHeld ?_
  try simp only [Act.put, List.setIfInBounds_toArray, List.set_cons_zero, List.set_cons_succ]
  first | (refine tw (i := 8) (v := ?_) ?_ hHeld ?_; rotate_left; focus (intro w hSw; (try dsimp only at hSw); (try simp only [WS] at hSw); go_simp; (try with_reducible rfl); done)) | refine tn (i := 8) hHeld ?_
  try simp only [Act.put, List.setIfInBounds_toArray, List.set_cons_zero, List.set_cons_succ]
  first | (refine tw (i := 9) (v := ?_) ?_ hHeld ?_; rotate_left; focus (intro w hSw; (try dsimp only at hSw); (try simp only [WS] at hSw); go_simp; (try with_reducible rfl); done)) | refine tn (i := 9) hHeld ?_
  try simp only [Act.put, List.setIfInBounds_toArray, List.set_cons_zero, List.set_cons_succ]
  first | (refine tw (i := 10) (v := ?_) ?_ hHeld ?_; rotate_left; focus (intro w hSw; (try dsimp only at hSw); (try simp only [WS] at hSw); go_simp; (try with_reducible rfl); done)) | refine tn (i := 10) hHeld ?_
  try simp only [Act.put, List.setIfInBounds_toArray, List.set_cons_zero, List.set_cons_succ]
  first | (refine tw (i := 11) (v := ?_) ?_ hHeld ?_; rotate_left; focus (intro w hSw; (try dsimp only at hSw); (try simp only [WS] at hSw); go_simp; (try with_reducible rfl); done)) | refine tn (i := 11) hHeld ?_
  try simp only [Act.put, List.setIfInBounds_toArray, List.set_cons_zero, List.set_cons_succ]
  first | (refine tw (i := 12) (v := ?_) ?_ hHeld ?_; rotate_left; focus (intro w hSw; (try dsimp only at hSw); (try simp only [WS] at hSw); go_simp; (try with_reducible rfl); done)) | refine tn (i := 12) hHeld ?_
  try simp only [Act.put, List.setIfInBounds_toArray, List.set_cons_zero, List.set_cons_succ]
  first | (refine tw (i := 15) (v := ?_) ?_ hHeld ?_; rotate_left; focus (intro w hSw; (try dsimp only at hSw); (try simp only [WS] at hSw); go_simp; (try with_reducible rfl); done)) | refine tn (i := 15) hHeld ?_
  try simp only [Act.put, List.setIfInBounds_toArray, List.set_cons_zero, List.set_cons_succ]
  refine call_next2 (i := 13) (j := 16) (by kernel_rfl) (by rfl) (by rfl) ?_ ?_
  · intro o ho K hK
    simp only [List.getElem?_toArray, List.getElem?_cons_succ, List.getElem?_cons_zero, Option.some.injEq] at ho
    subst ho
    first | (fail; refine hK.out _ _ ?_ (fun hHeld => ?_)) | (go_simp; first | (with_reducible refine hK.out _ _ ?_ (fun hHeld => ?_)) | ((first | (go_at_call 10; refine Calls.mono (hPl.out _ _ _ (by first | exact hlA.out _ | exact hlB.out _ _) (by first | exact hpA.out | exact hpB.out _ | exact hpC.out _)) ?_; rintro e5 w5 ⟨vp, rfl, hrow, hA⟩; replace hb2 := Lib.hid (bt (by first | exact hbA.out _ | exact hbB.out _ _) hA); replace hr2 := Lib.hid (WS.below hHeld hA); replace hrow := Lib.hid hrow.x) | (go_at_call 9; refine Calls.mono (hSm.out _ _ _ (by first | exact hrow.out | exact hrow.out.below (alb _ _)) (by first | exact hXc.out _ | exact (hcB.out _).below hA | exact (hcC.out _).below hA)) ?_; rintro e6 w7 ⟨rfl, hA7⟩; replace hb2 := Lib.hid (bt (by first | exact hb2.out | exact bt hb2.out (alb _ _)) hA7); replace hr2 := Lib.hid (WS.below hHeld hA7))); refine hK.out _ _ ?_ (fun hHeld => ?_)))
    · first | with_reducible exact hr2.out | exact hr2.out.below (alb _ _) | exact hsB.out _ _
    clear hK K
    try simp only [Act.put, List.setIfInBounds_toArray, List.set_cons_zero, List.set_cons_succ]
    refine call_next2 (i := 14) (j := 16) (by kernel_rfl) (by rfl) (by rfl) ?_ ?_
    · intro o ho K hK
      simp only [List.getElem?_toArray, List.getElem?_cons_succ, List.getElem?_cons_zero, Option.some.injEq] at ho
      subst ho
      first | (fail; refine hK.out _ _ ?_ (fun hHeld => ?_)) | (go_simp; first | (with_reducible refine hK.out _ _ ?_ (fun hHeld => ?_)) | ((first | (go_at_call 10; refine Calls.mono (hPl.out _ _ _ (by first | exact hlA.out _ | exact hlB.out _ _) (by first | exact hpA.out | exact hpB.out _ | exact hpC.out _)) ?_; rintro e5 w5 ⟨vp, rfl, hrow, hA⟩; replace hb2 := Lib.hid (bt (by first | exact hbA.out _ | exact hbB.out _ _) hA); replace hr2 := Lib.hid (WS.below hHeld hA); replace hrow := Lib.hid hrow.x) | (go_at_call 9; refine Calls.mono (hSm.out _ _ _ (by first | exact hrow.out | exact hrow.out.below (alb _ _)) (by first | exact hXc.out _ | exact (hcB.out _).below hA | exact (hcC.out _).below hA)) ?_; rintro e6 w7 ⟨rfl, hA7⟩; replace hb2 := Lib.hid (bt (by first | exact hb2.out | exact bt hb2.out (alb _ _)) hA7); replace hr2 := Lib.hid (WS.below hHeld hA7))); refine hK.out _ _ ?_ (fun hHeld => ?_)))
      · first | with_reducible exact hr2.out | exact hr2.out.below (alb _ _) | exact hsB.out _ _
      clear hK K
      try simp only [Act.put, List.setIfInBounds_toArray, List.set_cons_zero, List.set_cons_succ]
      refine call_next (i := 16) (by kernel_rfl) (by rfl) ?_
      intro o ho K hK
      simp only [List.getElem?_toArray, List.getElem?_cons_succ, List.getElem?_cons_zero, Option.some.injEq] at ho
      subst ho
      first | (fail; refine hK.out _ _ ?_ (fun hHeld => ?_)) | (go_simp; first | (with_reducible refine hK.out _ _ ?_ (fun hHeld => ?_)) | ((first | (go_at_call 10; refine Calls.mono (hPl.out _ _ _ (by first | exact hlA.out _ | exact hlB.out _ _) (by first | exact hpA.out | exact hpB.out _ | exact hpC.out _)) ?_; rintro e5 w5 ⟨vp, rfl, hrow, hA⟩; replace hb2 := Lib.hid (bt (by first | exact hbA.out _ | exact hbB.out _ _) hA); replace hr2 := Lib.hid (WS.below hHeld hA); replace hrow := Lib.hid hrow.x) | (go_at_call 9; refine Calls.mono (hSm.out _ _ _ (by first | exact hrow.out | exact hrow.out.below (alb _ _)) (by first | exact hXc.out _ | exact (hcB.out _).below hA | exact (hcC.out _).below hA)) ?_; rintro e6 w7 ⟨rfl, hA7⟩; replace hb2 := Lib.hid (bt (by first | exact hb2.out | exact bt hb2.out (alb _ _)) hA7); replace hr2 := Lib.hid (WS.below hHeld hA7))); refine hK.out _ _ ?_ (fun hHeld => ?_)))
      · first | with_reducible exact hr2.out | exact hr2.out.below (alb _ _) | exact hsB.out _ _
      clear hK K
      try simp only [Act.put, List.setIfInBounds_toArray, List.set_cons_zero, List.set_cons_succ]
      refine call_next (i := 17) (by kernel_rfl) (by rfl) ?_
      intro o ho K hK
      simp only [List.getElem?_toArray, List.getElem?_cons_succ, List.getElem?_cons_zero, Option.some.injEq] at ho
      subst ho
      first | (fail; refine hK.out _ _ ?_ (fun hHeld => ?_)) | (go_simp; first | (with_reducible refine hK.out _ _ ?_ (fun hHeld => ?_)) | ((first | (go_at_call 10; refine Calls.mono (hPl.out _ _ _ (by first | exact hlA.out _ | exact hlB.out _ _) (by first | exact hpA.out | exact hpB.out _ | exact hpC.out _)) ?_; rintro e5 w5 ⟨vp, rfl, hrow, hA⟩; replace hb2 := Lib.hid (bt (by first | exact hbA.out _ | exact hbB.out _ _) hA); replace hr2 := Lib.hid (WS.below hHeld hA); replace hrow := Lib.hid hrow.x) | (go_at_call 9; refine Calls.mono (hSm.out _ _ _ (by first | exact hrow.out | exact hrow.out.below (alb _ _)) (by first | exact hXc.out _ | exact (hcB.out _).below hA | exact (hcC.out _).below hA)) ?_; rintro e6 w7 ⟨rfl, hA7⟩; replace hb2 := Lib.hid (bt (by first | exact hb2.out | exact bt hb2.out (alb _ _)) hA7); replace hr2 := Lib.hid (WS.below hHeld hA7))); refine hK.out _ _ ?_ (fun hHeld => ?_)))
      · first | with_reducible exact hr2.out | exact hr2.out.below (alb _ _) | exact hsB.out _ _
      clear hK K
      try simp only [Act.put, List.setIfInBounds_toArray, List.set_cons_zero, List.set_cons_succ]
      first | (refine tw (i := 18) (v := ?_) ?_ hHeld ?_; rotate_left; focus (intro w hSw; (try dsimp only at hSw); (try simp only [WS] at hSw); go_simp; (try with_reducible rfl); done)) | refine tn (i := 18) hHeld ?_
      try simp only [Act.put, List.setIfInBounds_toArray, List.set_cons_zero, List.set_cons_succ]
      first | (refine tw (i := 19) (v := ?_) ?_ hHeld ?_; rotate_left; focus (intro w hSw; (try dsimp only at hSw); (try simp only [WS] at hSw); go_simp; (try with_reducible rfl); done)) | refine tn (i := 19) hHeld ?_
      try simp only [Act.put, List.setIfInBounds_toArray, List.set_cons_zero, List.set_cons_succ]
      refine wpAnyH_done (by kernel_rfl) ?_ _
      go_wp2
      exact hE0.out _ hb2.out
    · intro o ho K hK
      simp only [List.getElem?_toArray, List.getElem?_cons_succ, List.getElem?_cons_zero, Option.some.injEq] at ho
      subst ho
      first | (fail; refine hK.out _ _ ?_ (fun hHeld => ?_)) | (go_simp; first | (with_reducible refine hK.out _ _ ?_ (fun hHeld => ?_)) | ((first | (go_at_call 10; refine Calls.mono (hPl.out _ _ _ (by first | exact hlA.out _ | exact hlB.out _ _) (by first | exact hpA.out | exact hpB.out _ | exact hpC.out _)) ?_; rintro e5 w5 ⟨vp, rfl, hrow, hA⟩; replace hb2 := Lib.hid (bt (by first | exact hbA.out _ | exact hbB.out _ _) hA); replace hr2 := Lib.hid (WS.below hHeld hA); replace hrow := Lib.hid hrow.x) | (go_at_call 9; refine Calls.mono (hSm.out _ _ _ (by first | exact hrow.out | exact hrow.out.below (alb _ _)) (by first | exact hXc.out _ | exact (hcB.out _).below hA | exact (hcC.out _).below hA)) ?_; rintro e6 w7 ⟨rfl, hA7⟩; replace hb2 := Lib.hid (bt (by first | exact hb2.out | exact bt hb2.out (alb _ _)) hA7); replace hr2 := Lib.hid (WS.below hHeld hA7))); refine hK.out _ _ ?_ (fun hHeld => ?_)))
      · first | with_reducible exact hr2.out | exact hr2.out.below (alb _ _) | exact hsB.out _ _
      clear hK K
      try simp only [Act.put, List.setIfInBounds_toArray, List.set_cons_zero, List.set_cons_succ]
      refine call_next (i := 14) (by kernel_rfl) (by rfl) ?_
      intro o ho K hK
      simp only [List.getElem?_toArray, List.getElem?_cons_succ, List.getElem?_cons_zero, Option.some.injEq] at ho
      subst ho
      first | (fail; refine hK.out _ _ ?_ (fun hHeld => ?_)) | (go_simp; first | (with_reducible refine hK.out _ _ ?_ (fun hHeld => ?_)) | ((first | (go_at_call 10; refine Calls.mono (hPl.out _ _ _ (by first | exact hlA.out _ | exact hlB.out _ _) (by first | exact hpA.out | exact hpB.out _ | exact hpC.out _)) ?_; rintro e5 w5 ⟨vp, rfl, hrow, hA⟩; replace hb2 := Lib.hid (bt (by first | exact hbA.out _ | exact hbB.out _ _) hA); replace hr2 := Lib.hid (WS.below hHeld hA); replace hrow := Lib.hid hrow.x) | (go_at_call 9; refine Calls.mono (hSm.out _ _ _ (by first | exact hrow.out | exact hrow.out.below (alb _ _)) (by first | exact hXc.out _ | exact (hcB.out _).below hA | exact (hcC.out _).below hA)) ?_; rintro e6 w7 ⟨rfl, hA7⟩; replace hb2 := Lib.hid (bt (by first | exact hb2.out | exact bt hb2.out (alb _ _)) hA7); replace hr2 := Lib.hid (WS.below hHeld hA7))); refine hK.out _ _ ?_ (fun hHeld => ?_)))
      · first | with_reducible exact hr2.out | exact hr2.out.below (alb _ _) | exact hsB.out _ _
      clear hK K
      try simp only [Act.put, List.setIfInBounds_toArray, List.set_cons_zero, List.set_cons_succ]
      refine call_next (i := 17) (by kernel_rfl) (by rfl) ?_
      intro o ho K hK
      simp only [List.getElem?_toArray, List.getElem?_cons_succ, List.getElem?_cons_zero, Option.some.injEq] at ho
      subst ho
      first | (fail; refine hK.out _ _ ?_ (fun hHeld => ?_)) | (go_simp; first | (with_reducible refine hK.out _ _ ?_ (fun hHeld => ?_)) | ((first | (go_at_call 10; refine Calls.mono (hPl.out _ _ _ (by first | exact hlA.out _ | exact hlB.out _ _) (by first | exact hpA.out | exact hpB.out _ | exact hpC.out _)) ?_; rintro e5 w5 ⟨vp, rfl, hrow, hA⟩; replace hb2 := Lib.hid (bt (by first | exact hbA.out _ | exact hbB.out _ _) hA); replace hr2 := Lib.hid (WS.below hHeld hA); replace hrow := Lib.hid hrow.x) | (go_at_call 9; refine Calls.mono (hSm.out _ _ _ (by first | exact hrow.out | exact hrow.out.below (alb _ _)) (by first | exact hXc.out _ | exact (hcB.out _).below hA | exact (hcC.out _).below hA)) ?_; rintro e6 w7 ⟨rfl, hA7⟩; replace hb2 := Lib.hid (bt (by first | exact hb2.out | exact bt hb2.out (alb _ _)) hA7); replace hr2 := Lib.hid (WS.below hHeld hA7))); refine hK.out _ _ ?_ (fun hHeld => ?_)))
      · first | with_reducible exact hr2.out | exact hr2.out.below (alb _ _) | exact hsB.out _ _
      clear hK K
      try simp only [Act.put, List.setIfInBounds_toArray, List.set_cons_zero, List.set_cons_succ]
      first | (refine tw (i := 18) (v := ?_) ?_ hHeld ?_; rotate_left; focus (intro w hSw; (try dsimp only at hSw); (try simp only [WS] at hSw); go_simp; (try with_reducible rfl); done)) | refine tn (i := 18) hHeld ?_
      try simp only [Act.put, List.setIfInBounds_toArray, List.set_cons_zero, List.set_cons_succ]
      first | (refine tw (i := 19) (v := ?_) ?_ hHeld ?_; rotate_left; focus (intro w hSw; (try dsimp only at hSw); (try simp only [WS] at hSw); go_simp; (try with_reducible rfl); done)) | refine tn (i := 19) hHeld ?_
      try simp only [Act.put, List.setIfInBounds_toArray, List.set_cons_zero, List.set_cons_succ]
      refine wpAnyH_done (by kernel_rfl) ?_ _
      go_wp2
      exact hE0.out _ hb2.out
  · intro o ho K hK
    simp only [List.getElem?_toArray, List.getElem?_cons_succ, List.getElem?_cons_zero, Option.some.injEq] at ho
    subst ho
    first | (fail; refine hK.out _ _ ?_ (fun hHeld => ?_)) | (go_simp; first | (with_reducible refine hK.out _ _ ?_ (fun hHeld => ?_)) | ((first | (go_at_call 10; refine Calls.mono (hPl.out _ _ _ (by first | exact hlA.out _ | exact hlB.out _ _) (by first | exact hpA.out | exact hpB.out _ | exact hpC.out _)) ?_; rintro e5 w5 ⟨vp, rfl, hrow, hA⟩; replace hb2 := Lib.hid (bt (by first | exact hbA.out _ | exact hbB.out _ _) hA); replace hr2 := Lib.hid (WS.below hHeld hA); replace hrow := Lib.hid hrow.x) | (go_at_call 9; refine Calls.mono (hSm.out _ _ _ (by first | exact hrow.out | exact hrow.out.below (alb _ _)) (by first | exact hXc.out _ | exact (hcB.out _).below hA | exact (hcC.out _).below hA)) ?_; rintro e6 w7 ⟨rfl, hA7⟩; replace hb2 := Lib.hid (bt (by first | exact hb2.out | exact bt hb2.out (alb _ _)) hA7); replace hr2 := Lib.hid (WS.below hHeld hA7))); refine hK.out _ _ ?_ (fun hHeld => ?_)))
    · first | with_reducible exact hr2.out | exact hr2.out.below (alb _ _) | exact hsB.out _ _
    clear hK K
    try simp only [Act.put, List.setIfInBounds_toArray, List.set_cons_zero, List.set_cons_succ]
    refine call_next (i := 13) (by kernel_rfl) (by rfl) ?_
    intro o ho K hK
    simp only [List.getElem?_toArray, List.getElem?_cons_succ, List.getElem?_cons_zero, Option.some.injEq] at ho
    subst ho
    first | (fail; refine hK.out _ _ ?_ (fun hHeld => ?_)) | (go_simp; first | (with_reducible refine hK.out _ _ ?_ (fun hHeld => ?_)) | ((first | (go_at_call 10; refine Calls.mono (hPl.out _ _ _ (by first | exact hlA.out _ | exact hlB.out _ _) (by first | exact hpA.out | exact hpB.out _ | exact hpC.out _)) ?_; rintro e5 w5 ⟨vp, rfl, hrow, hA⟩; replace hb2 := Lib.hid (bt (by first | exact hbA.out _ | exact hbB.out _ _) hA); replace hr2 := Lib.hid (WS.below hHeld hA); replace hrow := Lib.hid hrow.x) | (go_at_call 9; refine Calls.mono (hSm.out _ _ _ (by first | exact hrow.out | exact hrow.out.below (alb _ _)) (by first | exact hXc.out _ | exact (hcB.out _).below hA | exact (hcC.out _).below hA)) ?_; rintro e6 w7 ⟨rfl, hA7⟩; replace hb2 := Lib.hid (bt (by first | exact hb2.out | exact bt hb2.out (alb _ _)) hA7); replace hr2 := Lib.hid (WS.below hHeld hA7))); refine hK.out _ _ ?_ (fun hHeld => ?_)))
    · first | with_reducible exact hr2.out | exact hr2.out.below (alb _ _) | exact hsB.out _ _
    clear hK K
    try simp only [Act.put, List.setIfInBounds_toArray, List.set_cons_zero, List.set_cons_succ]
    refine call_next (i := 14) (by kernel_rfl) (by rfl) ?_
    intro o ho K hK
    simp only [List.getElem?_toArray, List.getElem?_cons_succ, List.getElem?_cons_zero, Option.some.injEq] at ho
    subst ho
    first | (fail; refine hK.out _ _ ?_ (fun hHeld => ?_)) | (go_simp; first | (with_reducible refine hK.out _ _ ?_ (fun hHeld => ?_)) | ((first | (go_at_call 10; refine Calls.mono (hPl.out _ _ _ (by first | exact hlA.out _ | exact hlB.out _ _) (by first | exact hpA.out | exact hpB.out _ | exact hpC.out _)) ?_; rintro e5 w5 ⟨vp, rfl, hrow, hA⟩; replace hb2 := Lib.hid (bt (by first | exact hbA.out _ | exact hbB.out _ _) hA); replace hr2 := Lib.hid (WS.below hHeld hA); replace hrow := Lib.hid hrow.x) | (go_at_call 9; refine Calls.mono (hSm.out _ _ _ (by first | exact hrow.out | exact hrow.out.below (alb _ _)) (by first | exact hXc.out _ | exact (hcB.out _).below hA | exact (hcC.out _).below hA)) ?_; rintro e6 w7 ⟨rfl, hA7⟩; replace hb2 := Lib.hid (bt (by first | exact hb2.out | exact bt hb2.out (alb _ _)) hA7); replace hr2 := Lib.hid (WS.below hHeld hA7))); refine hK.out _ _ ?_ (fun hHeld => ?_)))
    · first | with_reducible exact hr2.out | exact hr2.out.below (alb _ _) | exact hsB.out _ _
    clear hK K
    try simp only [Act.put, List.setIfInBounds_toArray, List.set_cons_zero, List.set_cons_succ]
    refine call_next (i := 17) (by kernel_rfl) (by rfl) ?_
    intro o ho K hK
    simp only [List.getElem?_toArray, List.getElem?_cons_succ, List.getElem?_cons_zero, Option.some.injEq] at ho
    subst ho
    first | (fail; refine hK.out _ _ ?_ (fun hHeld => ?_)) | (go_simp; first | (with_reducible refine hK.out _ _ ?_ (fun hHeld => ?_)) | ((first | (go_at_call 10; refine Calls.mono (hPl.out _ _ _ (by first | exact hlA.out _ | exact hlB.out _ _) (by first | exact hpA.out | exact hpB.out _ | exact hpC.out _)) ?_; rintro e5 w5 ⟨vp, rfl, hrow, hA⟩; replace hb2 := Lib.hid (bt (by first | exact hbA.out _ | exact hbB.out _ _) hA); replace hr2 := Lib.hid (WS.below hHeld hA); replace hrow := Lib.hid hrow.x) | (go_at_call 9; refine Calls.mono (hSm.out _ _ _ (by first | exact hrow.out | exact hrow.out.below (alb _ _)) (by first | exact hXc.out _ | exact (hcB.out _).below hA | exact (hcC.out _).below hA)) ?_; rintro e6 w7 ⟨rfl, hA7⟩; replace hb2 := Lib.hid (bt (by first | exact hb2.out | exact bt hb2.out (alb _ _)) hA7); replace hr2 := Lib.hid (WS.below hHeld hA7))); refine hK.out _ _ ?_ (fun hHeld => ?_)))
    · first | with_reducible exact hr2.out | exact hr2.out.below (alb _ _) | exact hsB.out _ _
    clear hK K
    try simp only [Act.put, List.setIfInBounds_toArray, List.set_cons_zero, List.set_cons_succ]
    first | (refine tw (i := 18) (v := ?_) ?_ hHeld ?_; rotate_left; focus (intro w hSw; (try dsimp only at hSw); (try simp only [WS] at hSw); go_simp; (try with_reducible rfl); done)) | refine tn (i := 18) hHeld ?_
    try simp only [Act.put, List.setIfInBounds_toArray, List.set_cons_zero, List.set_cons_succ]
    first | (refine tw (i := 19) (v := ?_) ?_ hHeld ?_; rotate_left; focus (intro w hSw; (try dsimp only at hSw); (try simp only [WS] at hSw); go_simp; (try with_reducible rfl); done)) | refine tn (i := 19) hHeld ?_
    try simp only [Act.put, List.setIfInBounds_toArray, List.set_cons_zero, List.set_cons_succ]
    refine wpAnyH_done (by kernel_rfl) ?_ _
    go_wp2
    exact hE0.out _ hb2.out
end Go.Proofs.YtnflnaalpeeciaaDoor
