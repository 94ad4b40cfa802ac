/-
  What a node knows, how operations came out, and errors, in words (chapter 34): the law's walk.
-/
import Derived.Test.YtaddbljdheafaaaDoorRep8
namespace Go.Proofs.YtaddbljdheafaaaDoor
open Go.RowKit
set_option linter.unusedVariables false
set_option linter.unusedSimpArgs false
set_option maxRecDepth 20000

theorem i64_wf {n : Int} (h : (Lit.int .i64 n).wf = true) : I64 n := by
  have := bounds_i64 h
  unfold I64; omega
structure B13 (W : World) (A B C : Nat) (nd rl bo c0 c1 c2 c3 : Int) (b0 b1 b2 b3 : Bool) (id hw : Int) : Prop where
  x0 : W.cell? ⟨A, 0, none⟩ = some (.int .i64 nd)
  x1 : W.cell? ⟨A, 1, none⟩ = some (.int .i64 rl)
  x2 : W.cell? ⟨A, 2, none⟩ = some (.int .i64 bo)
  x3 : W.cell? ⟨A, 3, none⟩ = some (.int .i64 c0)
  x4 : W.cell? ⟨A, 4, none⟩ = some (.int .i64 c1)
  x5 : W.cell? ⟨A, 5, none⟩ = some (.int .i64 c2)
  x6 : W.cell? ⟨A, 6, none⟩ = some (.int .i64 c3)
  y0 : W.cell? ⟨B, 0, none⟩ = some (.bool b0)
  y1 : W.cell? ⟨B, 1, none⟩ = some (.bool b1)
  y2 : W.cell? ⟨B, 2, none⟩ = some (.bool b2)
  y3 : W.cell? ⟨B, 3, none⟩ = some (.bool b3)
  z0 : W.cell? ⟨C, 0, none⟩ = some (.int .i64 id)
  z1 : W.cell? ⟨C, 1, none⟩ = some (.int .i64 hw)
theorem B13.below {W W' : World} {A B C : Nat} {nd rl bo c0 c1 c2 c3 : Int} {b0 b1 b2 b3 : Bool} {id hw : Int} (h : B13 W A B C nd rl bo c0 c1 c2 c3 b0 b1 b2 b3 id hw) (hb : Below W.heap.size W W') : B13 W' A B C nd rl bo c0 c1 c2 c3 b0 b1 b2 b3 id hw :=
  ⟨bkeep hb h.x0, bkeep hb h.x1, bkeep hb h.x2, bkeep hb h.x3, bkeep hb h.x4, bkeep hb h.x5, bkeep hb h.x6, bkeep hb h.y0, bkeep hb h.y1, bkeep hb h.y2, bkeep hb h.y3, bkeep hb h.z0, bkeep hb h.z1⟩
def C13 (W : World) (A B C : Nat) (nd rl bo c0 c1 c2 c3 : Int) (b0 b1 b2 b3 : Bool) (id hw : Int) : Prop :=
  W.cell? ⟨A, 0, none⟩ = some (.int .i64 nd) ∧ W.cell? ⟨A, 1, none⟩ = some (.int .i64 rl) ∧ W.cell? ⟨A, 2, none⟩ = some (.int .i64 bo) ∧ W.cell? ⟨A, 3, none⟩ = some (.int .i64 c0) ∧ W.cell? ⟨A, 4, none⟩ = some (.int .i64 c1) ∧ W.cell? ⟨A, 5, none⟩ = some (.int .i64 c2) ∧ W.cell? ⟨A, 6, none⟩ = some (.int .i64 c3) ∧ W.cell? ⟨B, 0, none⟩ = some (.bool b0) ∧ W.cell? ⟨B, 1, none⟩ = some (.bool b1) ∧ W.cell? ⟨B, 2, none⟩ = some (.bool b2) ∧ W.cell? ⟨B, 3, none⟩ = some (.bool b3) ∧ W.cell? ⟨C, 0, none⟩ = some (.int .i64 id) ∧ W.cell? ⟨C, 1, none⟩ = some (.int .i64 hw)
theorem B13.c {W : World} {A B C : Nat} {nd rl bo c0 c1 c2 c3 : Int} {b0 b1 b2 b3 : Bool} {id hw : Int} (h : B13 W A B C nd rl bo c0 c1 c2 c3 b0 b1 b2 b3 id hw) : C13 W A B C nd rl bo c0 c1 c2 c3 b0 b1 b2 b3 id hw := ⟨h.x0, h.x1, h.x2, h.x3, h.x4, h.x5, h.x6, h.y0, h.y1, h.y2, h.y3, h.z0, h.z1⟩
set_option maxHeartbeats 6400000 in
theorem walk_ReportTells (nd rl bo c0 c1 c2 c3 : Int) (u0 : (Lit.int .i64 nd).wf = true) (u1 : (Lit.int .i64 rl).wf = true) (u2 : (Lit.int .i64 bo).wf = true) (u3 : (Lit.int .i64 c0).wf = true) (u4 : (Lit.int .i64 c1).wf = true) (u5 : (Lit.int .i64 c2).wf = true) (u6 : (Lit.int .i64 c3).wf = true)
    (b0 b1 b2 b3 : Bool) (ch : Int) (uc : (Lit.int .i64 ch).wf = true) (id hw : Int) (ui : (Lit.int .i64 id).wf = true) (uh : (Lit.int .i64 hw).wf = true) (er : Int) (ue : (Lit.int .i64 er).wf = true) {w : World} (hm : ML w) :
    Calls Tryd.prog 5 #[.agg #[.int .i64 nd, .int .i64 rl, .int .i64 bo, .int .i64 c0, .int .i64 c1, .int .i64 c2, .int .i64 c3], .agg #[.bool b0, .bool b1, .bool b2, .bool b3], .int .i64 ch, .agg #[.int .i64 id, .int .i64 hw], .int .i64 er] w fun e w' => e = .returned (.bool true) ∧ Below w.heap.size w w' := by
  have hE : ∀ W, Below w.heap.size w W → (fun (e : Ending) (w' : World) => e = .returned (.bool true) ∧ Below w.heap.size w w') (.returned (.bool true)) W := fun W h => ⟨rfl, h⟩
  generalize (fun (e : Ending) (w' : World) => e = .returned (.bool true) ∧ Below w.heap.size w w') = Pst at *
  replace hE := Lib.hid hE
  have hS := fun W => status_any nd rl bo c0 c1 c2 c3 b0 b1 b2 b3 ch W (i64_wf u2) (i64_wf uc)
  have hR := fun W => rstatus_any nd rl bo c0 c1 c2 c3 b0 b1 b2 b3 ch W (i64_wf u2) (i64_wf uc)
  have hV := fun W => event_any id hw W (i64_wf ui)
  have hU := fun W => revent_any id hw W (i64_wf ui)
  have hX := fun W => error_any er W (i64_wf ue)
  have hY := fun W => rerror_any er W (i64_wf ue)
  generalize jn (statA nd rl bo b0 b1 b2 b3 ch) = t1 at *
  generalize evS id hw = t2 at *
  generalize errS er = t3 at *
  replace hS := Lib.hid hS
  replace hR := Lib.hid hR
  replace hV := Lib.hid hV
  replace hU := Lib.hid hU
  replace hX := Lib.hid hX
  replace hY := Lib.hid hY
  have hk1 : (t1.toList == t1.toList) = true := beq_self_eq_true _
  have hk2 : (t2.toList == t2.toList) = true := beq_self_eq_true _
  have hk3 : (t3.toList == t3.toList) = true := beq_self_eq_true _
  clear u0 u1 u2 u3 u4 u5 u6 uc ui uh ue
  have hw0 : Hid (∀ o1 o2 o3, o1 = Obj.cells #[.int .i64 nd, .int .i64 rl, .int .i64 bo, .int .i64 c0, .int .i64 c1, .int .i64 c2, .int .i64 c3] 47 → o2 = Obj.cells #[.bool b0, .bool b1, .bool b2, .bool b3] 48 → o3 = Obj.cells #[.int .i64 id, .int .i64 hw] 50 → B13 (((w.alloc o1).alloc o2).alloc o3) w.heap.size (w.heap.size + 1) (w.heap.size + 1 + 1) nd rl bo c0 c1 c2 c3 b0 b1 b2 b3 id hw ∧ Below w.heap.size w (((w.alloc o1).alloc o2).alloc o3)) := by
    rintro o1 o2 o3 rfl rfl rfl
    refine ⟨?_, bt (bt (alb _ _) (alb _ _)) (alb _ _)⟩
    constructor <;> simp [go_sem]
  have hw1 := hw0.out _ _ _ rfl rfl rfl
  clear hw0
  generalize hWW : ((w.alloc (.cells #[.int .i64 nd, .int .i64 rl, .int .i64 bo, .int .i64 c0, .int .i64 c1, .int .i64 c2, .int .i64 c3] 47)).alloc (.cells #[.bool b0, .bool b1, .bool b2, .bool b3] 48)).alloc (.cells #[.int .i64 id, .int .i64 hw] 50) = W0 at *
  have hwk := Lib.hid (works_any W0 (hm.below hw1.2))
  replace hw1 := Lib.hid hw1
  clear hm
  go_enter Tryd.func5, Tryd.ntmps5
  go_wp2_with (go_at_call 6; (with_reducible refine hwk.out.mono ?_); rintro e1 w1 ⟨rfl, hA⟩; have hr2 := Lib.hid ((hw1.out.1.below hA).below (bdrw _)); have hb2 := Lib.hid (bt (bt hw1.out.2 hA) (bdrw _)); have hM0 := Lib.hid hr2.out.c; clear hA)
  clear hwk hw1
  refine wp_region_held_drew (S := (fun w' => C13 w' w.heap.size (w.heap.size + 1) (w.heap.size + 1 + 1) nd rl bo c0 c1 c2 c3 b0 b1 b2 b3 id hw)) (by kernel_rfl) ?_ (fun hHeld => ?_)
  · first | with_reducible exact hM0.out
  first | (refine tw (i := 0) (v := ?_) ?_ hHeld ?_; rotate_left; focus (intro w hSw; (try dsimp only at hSw); (try simp only [C13] at hSw); go_simp; (try with_reducible rfl); done)) | refine tn (i := 0) hHeld ?_
  try simp only [Act.put, List.setIfInBounds_toArray, List.set_cons_zero, List.set_cons_succ]
  first | (refine tw (i := 1) (v := ?_) ?_ hHeld ?_; rotate_left; focus (intro w hSw; (try dsimp only at hSw); (try simp only [C13] at hSw); go_simp; (try with_reducible rfl); done)) | refine tn (i := 1) hHeld ?_
  try simp only [Act.put, List.setIfInBounds_toArray, List.set_cons_zero, List.set_cons_succ]
  first | (refine tw (i := 2) (v := ?_) ?_ hHeld ?_; rotate_left; focus (intro w hSw; (try dsimp only at hSw); (try simp only [C13] at hSw); go_simp; (try with_reducible rfl); done)) | refine tn (i := 2) hHeld ?_
  try simp only [Act.put, List.setIfInBounds_toArray, List.set_cons_zero, List.set_cons_succ]
  first | (refine tw (i := 3) (v := ?_) ?_ hHeld ?_; rotate_left; focus (intro w hSw; (try dsimp only at hSw); (try simp only [C13] at hSw); go_simp; (try with_reducible rfl); done)) | refine tn (i := 3) hHeld ?_
  try simp only [Act.put, List.setIfInBounds_toArray, List.set_cons_zero, List.set_cons_succ]
  first | (refine tw (i := 4) (v := ?_) ?_ hHeld ?_; rotate_left; focus (intro w hSw; (try dsimp only at hSw); (try simp only [C13] at hSw); go_simp; (try with_reducible rfl); done)) | refine tn (i := 4) hHeld ?_
  try simp only [Act.put, List.setIfInBounds_toArray, List.set_cons_zero, List.set_cons_succ]
  first | (refine tw (i := 5) (v := ?_) ?_ hHeld ?_; rotate_left; focus (intro w hSw; (try dsimp only at hSw); (try simp only [C13] at hSw); go_simp; (try with_reducible rfl); done)) | refine tn (i := 5) hHeld ?_
  try simp only [Act.put, List.setIfInBounds_toArray, List.set_cons_zero, List.set_cons_succ]
  first | (refine tw (i := 6) (v := ?_) ?_ hHeld ?_; rotate_left; focus (intro w hSw; (try dsimp only at hSw); (try simp only [C13] at hSw); go_simp; (try with_reducible rfl); done)) | refine tn (i := 6) hHeld ?_
  try simp only [Act.put, List.setIfInBounds_toArray, List.set_cons_zero, List.set_cons_succ]
  first | (refine tw (i := 7) (v := ?_) ?_ hHeld ?_; rotate_left; focus (intro w hSw; (try dsimp only at hSw); (try simp only [C13] at hSw); go_simp; (try with_reducible rfl); done)) | refine tn (i := 7) hHeld ?_
  try simp only [Act.put, List.setIfInBounds_toArray, List.set_cons_zero, List.set_cons_succ]
  first | (refine tw (i := 8) (v := ?_) ?_ hHeld ?_; rotate_left; focus (intro w hSw; (try dsimp only at hSw); (try simp only [C13] at hSw); go_simp; (try with_reducible rfl); done)) | refine tn (i := 8) hHeld ?_
  try simp only [Act.put, List.setIfInBounds_toArray, List.set_cons_zero, List.set_cons_succ]
  first | (refine tw (i := 9) (v := ?_) ?_ hHeld ?_; rotate_left; focus (intro w hSw; (try dsimp only at hSw); (try simp only [C13] at hSw); go_simp; (try with_reducible rfl); done)) | refine tn (i := 9) hHeld ?_
  try simp only [Act.put, List.setIfInBounds_toArray, List.set_cons_zero, List.set_cons_succ]
  first | (refine tw (i := 11) (v := ?_) ?_ hHeld ?_; rotate_left; focus (intro w hSw; (try dsimp only at hSw); (try simp only [C13] at hSw); go_simp; (try with_reducible rfl); done)) | refine tn (i := 11) hHeld ?_
  try simp only [Act.put, List.setIfInBounds_toArray, List.set_cons_zero, List.set_cons_succ]
  first | (refine tw (i := 12) (v := ?_) ?_ hHeld ?_; rotate_left; focus (intro w hSw; (try dsimp only at hSw); (try simp only [C13] at hSw); go_simp; (try with_reducible rfl); done)) | refine tn (i := 12) hHeld ?_
  try simp only [Act.put, List.setIfInBounds_toArray, List.set_cons_zero, List.set_cons_succ]
  first | (refine tw (i := 13) (v := ?_) ?_ hHeld ?_; rotate_left; focus (intro w hSw; (try dsimp only at hSw); (try simp only [C13] at hSw); go_simp; (try with_reducible rfl); done)) | refine tn (i := 13) hHeld ?_
  try simp only [Act.put, List.setIfInBounds_toArray, List.set_cons_zero, List.set_cons_succ]
  first | (refine tw (i := 14) (v := ?_) ?_ hHeld ?_; rotate_left; focus (intro w hSw; (try dsimp only at hSw); (try simp only [C13] at hSw); go_simp; (try with_reducible rfl); done)) | refine tn (i := 14) hHeld ?_
  try simp only [Act.put, List.setIfInBounds_toArray, List.set_cons_zero, List.set_cons_succ]
  first | (refine tw (i := 15) (v := ?_) ?_ hHeld ?_; rotate_left; focus (intro w hSw; (try dsimp only at hSw); (try simp only [C13] at hSw); go_simp; (try with_reducible rfl); done)) | refine tn (i := 15) hHeld ?_
  try simp only [Act.put, List.setIfInBounds_toArray, List.set_cons_zero, List.set_cons_succ]
  first | (refine tw (i := 16) (v := ?_) ?_ hHeld ?_; rotate_left; focus (intro w hSw; (try dsimp only at hSw); (try simp only [C13] at hSw); go_simp; (try with_reducible rfl); done)) | refine tn (i := 16) hHeld ?_
  try simp only [Act.put, List.setIfInBounds_toArray, List.set_cons_zero, List.set_cons_succ]
  first | (refine tw (i := 17) (v := ?_) ?_ hHeld ?_; rotate_left; focus (intro w hSw; (try dsimp only at hSw); (try simp only [C13] at hSw); go_simp; (try with_reducible rfl); done)) | refine tn (i := 17) hHeld ?_
  try simp only [Act.put, List.setIfInBounds_toArray, List.set_cons_zero, List.set_cons_succ]
  first | (refine tw (i := 18) (v := ?_) ?_ hHeld ?_; rotate_left; focus (intro w hSw; (try dsimp only at hSw); (try simp only [C13] at hSw); go_simp; (try with_reducible rfl); done)) | refine tn (i := 18) hHeld ?_
  try simp only [Act.put, List.setIfInBounds_toArray, List.set_cons_zero, List.set_cons_succ]
  first | (refine tw (i := 19) (v := ?_) ?_ hHeld ?_; rotate_left; focus (intro w hSw; (try dsimp only at hSw); (try simp only [C13] at hSw); go_simp; (try with_reducible rfl); done)) | refine tn (i := 19) hHeld ?_
  try simp only [Act.put, List.setIfInBounds_toArray, List.set_cons_zero, List.set_cons_succ]
  first | (refine tw (i := 20) (v := ?_) ?_ hHeld ?_; rotate_left; focus (intro w hSw; (try dsimp only at hSw); (try simp only [C13] at hSw); go_simp; (try with_reducible rfl); done)) | refine tn (i := 20) hHeld ?_
  try simp only [Act.put, List.setIfInBounds_toArray, List.set_cons_zero, List.set_cons_succ]
  refine call_next (i := 10) (by kernel_rfl) (by rfl) ?_
  intro o ho K hK
  simp only [List.getElem?_toArray, List.getElem?_cons_succ, List.getElem?_cons_zero, Option.some.injEq] at ho
  subst ho
  first | (fail; refine hK.out _ _ ?_ (fun hHeld => ?_)) | (go_simp; first | (with_reducible refine hK.out _ _ ?_ (fun hHeld => ?_)) | ((first | (go_at_call 17; (with_reducible refine (hS.out _).mono ?_); rintro e5 w5 ⟨rfl, hA⟩; replace hr2 := Lib.hid (hr2.out.below hA); replace hb2 := Lib.hid (bt hb2.out hA); have hM0 := Lib.hid hr2.out.c; clear hA) | (go_at_call 18; (with_reducible refine (hR.out _).mono ?_); rintro e5 w5 ⟨rfl, hA⟩; replace hr2 := Lib.hid (hr2.out.below hA); replace hb2 := Lib.hid (bt hb2.out hA); have hM0 := Lib.hid hr2.out.c; clear hA) | (go_at_call 19; (with_reducible refine (hV.out _).mono ?_); rintro e5 w5 ⟨rfl, hA⟩; replace hr2 := Lib.hid (hr2.out.below hA); replace hb2 := Lib.hid (bt hb2.out hA); have hM0 := Lib.hid hr2.out.c; clear hA) | (go_at_call 20; (with_reducible refine (hU.out _).mono ?_); rintro e5 w5 ⟨rfl, hA⟩; replace hr2 := Lib.hid (hr2.out.below hA); replace hb2 := Lib.hid (bt hb2.out hA); have hM0 := Lib.hid hr2.out.c; clear hA) | (go_at_call 21; (with_reducible refine (hX.out _).mono ?_); rintro e5 w5 ⟨rfl, hA⟩; replace hr2 := Lib.hid (hr2.out.below hA); replace hb2 := Lib.hid (bt hb2.out hA); have hM0 := Lib.hid hr2.out.c; clear hA) | (go_at_call 22; (with_reducible refine (hY.out _).mono ?_); rintro e5 w5 ⟨rfl, hA⟩; replace hr2 := Lib.hid (hr2.out.below hA); replace hb2 := Lib.hid (bt hb2.out hA); have hM0 := Lib.hid hr2.out.c; clear hA)); refine hK.out _ _ ?_ (fun hHeld => ?_)))
  · first | with_reducible exact hM0.out
  clear hK K
  try simp only [Act.put, List.setIfInBounds_toArray, List.set_cons_zero, List.set_cons_succ]
  refine call_next (i := 21) (by kernel_rfl) (by rfl) ?_
  intro o ho K hK
  simp only [List.getElem?_toArray, List.getElem?_cons_succ, List.getElem?_cons_zero, Option.some.injEq] at ho
  subst ho
  first | (fail; refine hK.out _ _ ?_ (fun hHeld => ?_)) | (go_simp; first | (with_reducible refine hK.out _ _ ?_ (fun hHeld => ?_)) | ((first | (go_at_call 17; (with_reducible refine (hS.out _).mono ?_); rintro e5 w5 ⟨rfl, hA⟩; replace hr2 := Lib.hid (hr2.out.below hA); replace hb2 := Lib.hid (bt hb2.out hA); have hM0 := Lib.hid hr2.out.c; clear hA) | (go_at_call 18; (with_reducible refine (hR.out _).mono ?_); rintro e5 w5 ⟨rfl, hA⟩; replace hr2 := Lib.hid (hr2.out.below hA); replace hb2 := Lib.hid (bt hb2.out hA); have hM0 := Lib.hid hr2.out.c; clear hA) | (go_at_call 19; (with_reducible refine (hV.out _).mono ?_); rintro e5 w5 ⟨rfl, hA⟩; replace hr2 := Lib.hid (hr2.out.below hA); replace hb2 := Lib.hid (bt hb2.out hA); have hM0 := Lib.hid hr2.out.c; clear hA) | (go_at_call 20; (with_reducible refine (hU.out _).mono ?_); rintro e5 w5 ⟨rfl, hA⟩; replace hr2 := Lib.hid (hr2.out.below hA); replace hb2 := Lib.hid (bt hb2.out hA); have hM0 := Lib.hid hr2.out.c; clear hA) | (go_at_call 21; (with_reducible refine (hX.out _).mono ?_); rintro e5 w5 ⟨rfl, hA⟩; replace hr2 := Lib.hid (hr2.out.below hA); replace hb2 := Lib.hid (bt hb2.out hA); have hM0 := Lib.hid hr2.out.c; clear hA) | (go_at_call 22; (with_reducible refine (hY.out _).mono ?_); rintro e5 w5 ⟨rfl, hA⟩; replace hr2 := Lib.hid (hr2.out.below hA); replace hb2 := Lib.hid (bt hb2.out hA); have hM0 := Lib.hid hr2.out.c; clear hA)); refine hK.out _ _ ?_ (fun hHeld => ?_)))
  · first | with_reducible exact hM0.out
  clear hK K
  try simp only [Act.put, List.setIfInBounds_toArray, List.set_cons_zero, List.set_cons_succ]
  first | (refine tw (i := 22) (v := ?_) ?_ hHeld ?_; rotate_left; focus (intro w hSw; (try dsimp only at hSw); (try simp only [C13] at hSw); go_simp; (try with_reducible rfl); done)) | refine tn (i := 22) hHeld ?_
  try simp only [Act.put, List.setIfInBounds_toArray, List.set_cons_zero, List.set_cons_succ]
  first | (refine tw (i := 23) (v := ?_) ?_ hHeld ?_; rotate_left; focus (intro w hSw; (try dsimp only at hSw); (try simp only [C13] at hSw); go_simp; (try with_reducible rfl); done)) | refine tn (i := 23) hHeld ?_
  try simp only [Act.put, List.setIfInBounds_toArray, List.set_cons_zero, List.set_cons_succ]
  first | (refine tw (i := 24) (v := ?_) ?_ hHeld ?_; rotate_left; focus (intro w hSw; (try dsimp only at hSw); (try simp only [C13] at hSw); go_simp; (try with_reducible rfl); done)) | refine tn (i := 24) hHeld ?_
  try simp only [Act.put, List.setIfInBounds_toArray, List.set_cons_zero, List.set_cons_succ]
  first | (refine tw (i := 26) (v := ?_) ?_ hHeld ?_; rotate_left; focus (intro w hSw; (try dsimp only at hSw); (try simp only [C13] at hSw); go_simp; (try with_reducible rfl); done)) | refine tn (i := 26) hHeld ?_
  try simp only [Act.put, List.setIfInBounds_toArray, List.set_cons_zero, List.set_cons_succ]
  refine call_next (i := 25) (by kernel_rfl) (by rfl) ?_
  intro o ho K hK
  simp only [List.getElem?_toArray, List.getElem?_cons_succ, List.getElem?_cons_zero, Option.some.injEq] at ho
  subst ho
  first | (fail; refine hK.out _ _ ?_ (fun hHeld => ?_)) | (go_simp; first | (with_reducible refine hK.out _ _ ?_ (fun hHeld => ?_)) | ((first | (go_at_call 17; (with_reducible refine (hS.out _).mono ?_); rintro e5 w5 ⟨rfl, hA⟩; replace hr2 := Lib.hid (hr2.out.below hA); replace hb2 := Lib.hid (bt hb2.out hA); have hM0 := Lib.hid hr2.out.c; clear hA) | (go_at_call 18; (with_reducible refine (hR.out _).mono ?_); rintro e5 w5 ⟨rfl, hA⟩; replace hr2 := Lib.hid (hr2.out.below hA); replace hb2 := Lib.hid (bt hb2.out hA); have hM0 := Lib.hid hr2.out.c; clear hA) | (go_at_call 19; (with_reducible refine (hV.out _).mono ?_); rintro e5 w5 ⟨rfl, hA⟩; replace hr2 := Lib.hid (hr2.out.below hA); replace hb2 := Lib.hid (bt hb2.out hA); have hM0 := Lib.hid hr2.out.c; clear hA) | (go_at_call 20; (with_reducible refine (hU.out _).mono ?_); rintro e5 w5 ⟨rfl, hA⟩; replace hr2 := Lib.hid (hr2.out.below hA); replace hb2 := Lib.hid (bt hb2.out hA); have hM0 := Lib.hid hr2.out.c; clear hA) | (go_at_call 21; (with_reducible refine (hX.out _).mono ?_); rintro e5 w5 ⟨rfl, hA⟩; replace hr2 := Lib.hid (hr2.out.below hA); replace hb2 := Lib.hid (bt hb2.out hA); have hM0 := Lib.hid hr2.out.c; clear hA) | (go_at_call 22; (with_reducible refine (hY.out _).mono ?_); rintro e5 w5 ⟨rfl, hA⟩; replace hr2 := Lib.hid (hr2.out.below hA); replace hb2 := Lib.hid (bt hb2.out hA); have hM0 := Lib.hid hr2.out.c; clear hA)); refine hK.out _ _ ?_ (fun hHeld => ?_)))
  · first | with_reducible exact hM0.out
  clear hK K
  try simp only [Act.put, List.setIfInBounds_toArray, List.set_cons_zero, List.set_cons_succ]
  refine call_next (i := 27) (by kernel_rfl) (by rfl) ?_
  intro o ho K hK
  simp only [List.getElem?_toArray, List.getElem?_cons_succ, List.getElem?_cons_zero, Option.some.injEq] at ho
  subst ho
  first | (fail; refine hK.out _ _ ?_ (fun hHeld => ?_)) | (go_simp; first | (with_reducible refine hK.out _ _ ?_ (fun hHeld => ?_)) | ((first | (go_at_call 17; (with_reducible refine (hS.out _).mono ?_); rintro e5 w5 ⟨rfl, hA⟩; replace hr2 := Lib.hid (hr2.out.below hA); replace hb2 := Lib.hid (bt hb2.out hA); have hM0 := Lib.hid hr2.out.c; clear hA) | (go_at_call 18; (with_reducible refine (hR.out _).mono ?_); rintro e5 w5 ⟨rfl, hA⟩; replace hr2 := Lib.hid (hr2.out.below hA); replace hb2 := Lib.hid (bt hb2.out hA); have hM0 := Lib.hid hr2.out.c; clear hA) | (go_at_call 19; (with_reducible refine (hV.out _).mono ?_); rintro e5 w5 ⟨rfl, hA⟩; replace hr2 := Lib.hid (hr2.out.below hA); replace hb2 := Lib.hid (bt hb2.out hA); have hM0 := Lib.hid hr2.out.c; clear hA) | (go_at_call 20; (with_reducible refine (hU.out _).mono ?_); rintro e5 w5 ⟨rfl, hA⟩; replace hr2 := Lib.hid (hr2.out.below hA); replace hb2 := Lib.hid (bt hb2.out hA); have hM0 := Lib.hid hr2.out.c; clear hA) | (go_at_call 21; (with_reducible refine (hX.out _).mono ?_); rintro e5 w5 ⟨rfl, hA⟩; replace hr2 := Lib.hid (hr2.out.below hA); replace hb2 := Lib.hid (bt hb2.out hA); have hM0 := Lib.hid hr2.out.c; clear hA) | (go_at_call 22; (with_reducible refine (hY.out _).mono ?_); rintro e5 w5 ⟨rfl, hA⟩; replace hr2 := Lib.hid (hr2.out.below hA); replace hb2 := Lib.hid (bt hb2.out hA); have hM0 := Lib.hid hr2.out.c; clear hA)); refine hK.out _ _ ?_ (fun hHeld => ?_)))
  · first | with_reducible exact hM0.out
  clear hK K
  try simp only [Act.put, List.setIfInBounds_toArray, List.set_cons_zero, List.set_cons_succ]
  first | (refine tw (i := 28) (v := ?_) ?_ hHeld ?_; rotate_left; focus (intro w hSw; (try dsimp only at hSw); (try simp only [C13] at hSw); go_simp; (try with_reducible rfl); done)) | refine tn (i := 28) hHeld ?_
  try simp only [Act.put, List.setIfInBounds_toArray, List.set_cons_zero, List.set_cons_succ]
  first | (refine tw (i := 29) (v := ?_) ?_ hHeld ?_; rotate_left; focus (intro w hSw; (try dsimp only at hSw); (try simp only [C13] at hSw); go_simp; (try with_reducible rfl); done)) | refine tn (i := 29) hHeld ?_
  try simp only [Act.put, List.setIfInBounds_toArray, List.set_cons_zero, List.set_cons_succ]
  first | (refine tw (i := 30) (v := ?_) ?_ hHeld ?_; rotate_left; focus (intro w hSw; (try dsimp only at hSw); (try simp only [C13] at hSw); go_simp; (try with_reducible rfl); done)) | refine tn (i := 30) hHeld ?_
  try simp only [Act.put, List.setIfInBounds_toArray, List.set_cons_zero, List.set_cons_succ]
  first | (refine tw (i := 31) (v := ?_) ?_ hHeld ?_; rotate_left; focus (intro w hSw; (try dsimp only at hSw); (try simp only [C13] at hSw); go_simp; (try with_reducible rfl); done)) | refine tn (i := 31) hHeld ?_
  try simp only [Act.put, List.setIfInBounds_toArray, List.set_cons_zero, List.set_cons_succ]
  first | (refine tw (i := 33) (v := ?_) ?_ hHeld ?_; rotate_left; focus (intro w hSw; (try dsimp only at hSw); (try simp only [C13] at hSw); go_simp; (try with_reducible rfl); done)) | refine tn (i := 33) hHeld ?_
  try simp only [Act.put, List.setIfInBounds_toArray, List.set_cons_zero, List.set_cons_succ]
  refine call_next (i := 32) (by kernel_rfl) (by rfl) ?_
  intro o ho K hK
  simp only [List.getElem?_toArray, List.getElem?_cons_succ, List.getElem?_cons_zero, Option.some.injEq] at ho
  subst ho
  first | (fail; refine hK.out _ _ ?_ (fun hHeld => ?_)) | (go_simp; first | (with_reducible refine hK.out _ _ ?_ (fun hHeld => ?_)) | ((first | (go_at_call 17; (with_reducible refine (hS.out _).mono ?_); rintro e5 w5 ⟨rfl, hA⟩; replace hr2 := Lib.hid (hr2.out.below hA); replace hb2 := Lib.hid (bt hb2.out hA); have hM0 := Lib.hid hr2.out.c; clear hA) | (go_at_call 18; (with_reducible refine (hR.out _).mono ?_); rintro e5 w5 ⟨rfl, hA⟩; replace hr2 := Lib.hid (hr2.out.below hA); replace hb2 := Lib.hid (bt hb2.out hA); have hM0 := Lib.hid hr2.out.c; clear hA) | (go_at_call 19; (with_reducible refine (hV.out _).mono ?_); rintro e5 w5 ⟨rfl, hA⟩; replace hr2 := Lib.hid (hr2.out.below hA); replace hb2 := Lib.hid (bt hb2.out hA); have hM0 := Lib.hid hr2.out.c; clear hA) | (go_at_call 20; (with_reducible refine (hU.out _).mono ?_); rintro e5 w5 ⟨rfl, hA⟩; replace hr2 := Lib.hid (hr2.out.below hA); replace hb2 := Lib.hid (bt hb2.out hA); have hM0 := Lib.hid hr2.out.c; clear hA) | (go_at_call 21; (with_reducible refine (hX.out _).mono ?_); rintro e5 w5 ⟨rfl, hA⟩; replace hr2 := Lib.hid (hr2.out.below hA); replace hb2 := Lib.hid (bt hb2.out hA); have hM0 := Lib.hid hr2.out.c; clear hA) | (go_at_call 22; (with_reducible refine (hY.out _).mono ?_); rintro e5 w5 ⟨rfl, hA⟩; replace hr2 := Lib.hid (hr2.out.below hA); replace hb2 := Lib.hid (bt hb2.out hA); have hM0 := Lib.hid hr2.out.c; clear hA)); refine hK.out _ _ ?_ (fun hHeld => ?_)))
  · first | with_reducible exact hM0.out
  clear hK K
  try simp only [Act.put, List.setIfInBounds_toArray, List.set_cons_zero, List.set_cons_succ]
  refine call_next (i := 34) (by kernel_rfl) (by rfl) ?_
  intro o ho K hK
  simp only [List.getElem?_toArray, List.getElem?_cons_succ, List.getElem?_cons_zero, Option.some.injEq] at ho
  subst ho
  first | (fail; refine hK.out _ _ ?_ (fun hHeld => ?_)) | (go_simp; first | (with_reducible refine hK.out _ _ ?_ (fun hHeld => ?_)) | ((first | (go_at_call 17; (with_reducible refine (hS.out _).mono ?_); rintro e5 w5 ⟨rfl, hA⟩; replace hr2 := Lib.hid (hr2.out.below hA); replace hb2 := Lib.hid (bt hb2.out hA); have hM0 := Lib.hid hr2.out.c; clear hA) | (go_at_call 18; (with_reducible refine (hR.out _).mono ?_); rintro e5 w5 ⟨rfl, hA⟩; replace hr2 := Lib.hid (hr2.out.below hA); replace hb2 := Lib.hid (bt hb2.out hA); have hM0 := Lib.hid hr2.out.c; clear hA) | (go_at_call 19; (with_reducible refine (hV.out _).mono ?_); rintro e5 w5 ⟨rfl, hA⟩; replace hr2 := Lib.hid (hr2.out.below hA); replace hb2 := Lib.hid (bt hb2.out hA); have hM0 := Lib.hid hr2.out.c; clear hA) | (go_at_call 20; (with_reducible refine (hU.out _).mono ?_); rintro e5 w5 ⟨rfl, hA⟩; replace hr2 := Lib.hid (hr2.out.below hA); replace hb2 := Lib.hid (bt hb2.out hA); have hM0 := Lib.hid hr2.out.c; clear hA) | (go_at_call 21; (with_reducible refine (hX.out _).mono ?_); rintro e5 w5 ⟨rfl, hA⟩; replace hr2 := Lib.hid (hr2.out.below hA); replace hb2 := Lib.hid (bt hb2.out hA); have hM0 := Lib.hid hr2.out.c; clear hA) | (go_at_call 22; (with_reducible refine (hY.out _).mono ?_); rintro e5 w5 ⟨rfl, hA⟩; replace hr2 := Lib.hid (hr2.out.below hA); replace hb2 := Lib.hid (bt hb2.out hA); have hM0 := Lib.hid hr2.out.c; clear hA)); refine hK.out _ _ ?_ (fun hHeld => ?_)))
  · first | with_reducible exact hM0.out
  clear hK K
  try simp only [Act.put, List.setIfInBounds_toArray, List.set_cons_zero, List.set_cons_succ]
  first | (refine tw (i := 35) (v := ?_) ?_ hHeld ?_; rotate_left; focus (intro w hSw; (try dsimp only at hSw); (try simp only [C13] at hSw); go_simp; (try with_reducible rfl); done)) | refine tn (i := 35) hHeld ?_
  try simp only [Act.put, List.setIfInBounds_toArray, List.set_cons_zero, List.set_cons_succ]
  first | (refine tw (i := 36) (v := ?_) ?_ hHeld ?_; rotate_left; focus (intro w hSw; (try dsimp only at hSw); (try simp only [C13] at hSw); go_simp; (try with_reducible rfl); done)) | refine tn (i := 36) hHeld ?_
  try simp only [Act.put, List.setIfInBounds_toArray, List.set_cons_zero, List.set_cons_succ]
  first | (refine tw (i := 37) (v := ?_) ?_ hHeld ?_; rotate_left; focus (intro w hSw; (try dsimp only at hSw); (try simp only [C13] at hSw); go_simp; (try with_reducible rfl); done)) | refine tn (i := 37) hHeld ?_
  try simp only [Act.put, List.setIfInBounds_toArray, List.set_cons_zero, List.set_cons_succ]
  refine wpAnyH_done (by kernel_rfl) ?_ _
  go_wp2
  exact hE.out _ hb2.out
end Go.Proofs.YtaddbljdheafaaaDoor
