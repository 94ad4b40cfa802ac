/-
  What words tell of a conflict (chapter 34): the program's reading of a version.
-/
import Derived.Test.YtaddbljdheafaaaDoorRep5
import Derived.Test.YtaddbljdheafaaaDoorCountRead2
import Derived.Test.YtaddbljdheafaaaDoorCountHex4
import Derived.Test.YtaddbljdheafaaaDoorDrawS
namespace Go.Proofs.YtaddbljdheafaaaDoor
open Go.RowKit
set_option linter.unusedVariables false
set_option linter.unusedSimpArgs false
set_option maxRecDepth 20000

/-- where the library's own variable holds a number -/
def ML (w : World) : Prop := ∃ m : Int, w.cell? ⟨0, 0, none⟩ = some (.int .i64 m)
theorem ML.below {w w' : World} (h : ML w) (hb : Below w.heap.size w w') : ML w' := by
  obtain ⟨m, hm⟩ := h
  exact ⟨m, bkeep hb hm⟩
def cA (s : ByteArray) : ByteArray := ⟨(Lib.cut s.data.toList [46]).1.toArray⟩
def cB (s : ByteArray) : ByteArray := ⟨(Lib.cut s.data.toList [46]).2.1.toArray⟩
def cF (s : ByteArray) : Bool := (Lib.cut s.data.toList [46]).2.2
theorem cA_size (s : ByteArray) : (cA s).size ≤ s.size := by
  show (Lib.cut s.data.toList [46]).1.length ≤ s.data.toList.length
  unfold Lib.cut
  split
  · exact List.length_take_le' _ _
  · exact Nat.le_refl _
theorem cB_size (s : ByteArray) : (cB s).size ≤ s.size := by
  show (Lib.cut s.data.toList [46]).2.1.length ≤ s.data.toList.length
  unfold Lib.cut
  split
  · show (List.drop _ _).length ≤ _
    rw [List.length_drop]; omega
  · exact Nat.zero_le _
def okV (s u : ByteArray) : Bool := cF s && decide (readE (cA s) = 0) && decide (readE (cB s) = 0) && decide (unE u = 0) && decide (u.size = 8) && rightB (readV (cA s)) (readV (cB s))
def V2 (W : World) (K : Nat) (a b : Int) : Prop := W.heap[K]? = some (.cells #[.int .i64 a, .int .i64 b] 23 (0, 0))
theorem V2.c0 {W : World} {K : Nat} {a b : Int} (h : V2 W K a b) : W.cell? ⟨K, 0, none⟩ = some (.int .i64 a) := cell_of_row W K 0 _ _ _ h
theorem V2.c1 {W : World} {K : Nat} {a b : Int} (h : V2 W K a b) : W.cell? ⟨K, 1, none⟩ = some (.int .i64 b) := cell_of_row W K 1 _ _ _ h
theorem V2.free {W : World} {K : Nat} {a b : Int} (h : V2 W K a b) (j : Nat) : W.frozen? ⟨K, j, none⟩ = false := frozen_of_row W K j _ _ h
theorem V2.below {W W' : World} {K : Nat} {a b : Int} (h : V2 W K a b) (hb : Below W.heap.size W W') : V2 W' K a b := (hb.block K (Array.getElem?_eq_some_iff.1 h).1).trans h
theorem V2.put {W : World} {K : Nat} {a b : Int} (h : V2 W K a b) (x y : Int) : V2 ((W.setCell ⟨K, 0, none⟩ (.int .i64 x)).setCell ⟨K, 1, none⟩ (.int .i64 y)) K x y :=
  heap_setCell_same _ K 1 _ _ (.int .i64 y) (heap_setCell_same W K 0 _ _ (.int .i64 x) h)
theorem V2.new (W : World) (a b : Int) : V2 (W.alloc (.cells #[.int .i64 a, .int .i64 b] 23)) W.heap.size a b := heap_alloc_new W _
def VE (s u : ByteArray) (w : World) (e : Ending) (w' : World) : Prop := e = .returned (.tuple #[.agg #[.int .i64 (readV (cA s)), .int .i64 (readV (cB s))], .bool (okV s u)]) ∧ Below w.heap.size w w'
set_option maxHeartbeats 3200000 in
theorem vread_any (s u : ByteArray) (w : World) (hs : s.size ≤ 100000) (hu : u.size ≤ 100000) (hm : ML w) : Calls Tryd.prog 25 #[.string s, .string u] w (VE s u w) := by
  have hE : ∀ W b, b = okV s u → Below w.heap.size w W → VE s u w (.returned (.tuple #[.agg #[.int .i64 (readV (cA s)), .int .i64 (readV (cB s))], .bool b])) W := by
    rintro W b rfl h
    exact ⟨rfl, h⟩
  have hCut := fun (W : World) (h : ML W) => (Exists.elim h fun m h1 => Tryd.strings_Cut s ⟨#[46]⟩ m W (by omega) h1 : Calls Tryd.prog 43 #[.string s, .string ⟨#[46]⟩] W fun e w' => e = .returned (.tuple #[.string (cA s), .string (cB s), .bool (cF s)]) ∧ ∃ n, w' = W.drewN n)
  have zA := cA_size s
  have zB := cB_size s
  have hRa := fun W => read_any (cA s) W (by omega)
  have hRb := fun W => read_any (cB s) W (by omega)
  have hUn := Lib.hid (fun W => unhex_any u W (by omega))
  have hV : okV s u = (cF s && decide (readE (cA s) = 0) && decide (readE (cB s) = 0) && decide (unE u = 0) && decide (u.size = 8) && rightB (readV (cA s)) (readV (cB s))) := rfl
  have hRi := Lib.hid (fun W => right_any (readV (cA s)) (readV (cB s)) W)
  generalize VE s u w = Pst at *
  generalize okV s u = ok at *
  generalize unS u = us at *
  generalize readV (cA s) = nA at *
  generalize readV (cB s) = nB at *
  generalize readE (cA s) = eA at *
  generalize readE (cB s) = eB at *
  generalize cA s = tA at *
  generalize cB s = tB at *
  generalize cF s = fd at *
  replace hRa := Lib.hid hRa
  replace hRb := Lib.hid hRb
  replace hCut := Lib.hid hCut
  obtain ⟨W0, hW0⟩ : ∃ W0, w.alloc (.cells #[.int .i64 0, .int .i64 0] 23) = W0 := ⟨_, rfl⟩
  have hR1 := Lib.hid (hW0 ▸ V2.new w 0 0)
  have hb1 : Below w.heap.size w W0 := hW0 ▸ alb w _
  have hm1 := Lib.hid (hm.below hb1)
  replace hb1 := Lib.hid hb1
  clear zA zB hs hu hm
  cases fd with
  | false =>
    clear hRi
    replace hV : ok = false := hV.trans (by simp)
    subst hV
    replace hE := Lib.hid hE
    go_enter Tryd.func25, Tryd.ntmps25
    go_wp2_with (first | (go_at_call 43; (with_reducible refine (hCut.out _ hm1.out).mono ?_); rintro e1 w1 ⟨rfl, ⟨n, rfl⟩⟩; have hR2 := Lib.hid (hR1.out.below (bdraws0 _ n)); have hb2 := Lib.hid (bdraws hb1.out n)) | (go_at_call 24; (with_reducible refine (hRa.out _).mono ?_); rintro e2 w2 ⟨rfl, rfl⟩) | (go_at_call 24; (with_reducible refine (hRb.out _).mono ?_); rintro e3 w3 ⟨rfl, rfl⟩) | (go_at_call 44; (with_reducible refine (hUn.out _).mono ?_); rintro e4 w4 ⟨rfl, hA⟩; replace hR2 := Lib.hid (hR2.out.below hA); replace hb2 := Lib.hid (bt hb2.out hA); clear hA; have q0 := hR2.out.c0; have q1 := hR2.out.c1; have f0 := hR2.out.free 0; have f1 := hR2.out.free 1))
    clear q0 q1 f0 f1
    replace hR2 := Lib.hid (hR2.out.put nA nB)
    replace hb2 := Lib.hid ((hb2.out.setCell (p := ⟨w.heap.size, 0, none⟩) (Nat.le_refl _) (.int .i64 nA)).setCell (p := ⟨w.heap.size, 1, none⟩) (Nat.le_refl _) (.int .i64 nB))
    generalize (w4.setCell ⟨w.heap.size, 0, none⟩ (.int .i64 nA)).setCell ⟨w.heap.size, 1, none⟩ (.int .i64 nB) = W6 at *
    have q0 := hR2.out.c0
    have q1 := hR2.out.c1
    have f0 := hR2.out.free 0
    have f1 := hR2.out.free 1
    have hR6 := hR2
    have hb6 := hb2
    replace hR2 := Lib.hid (hR2.out.below (bdrw _))
    replace hb2 := Lib.hid (bt hb2.out (bdrw _))
    have hM0 := And.intro hR2.out.c0 hR2.out.c1
    have hM3 := And.intro (hR2.out.put nA nB).c0 (hR2.out.put nA nB).c1
    replace hM3 := Lib.hid hM3
    refine wp_region_drewS (S := (fun w' : World => w'.cell? ⟨w.heap.size, 0, none⟩ = some (.int .i64 nA) ∧ w'.cell? ⟨w.heap.size, 1, none⟩ = some (.int .i64 nB))) 24 (by kernel_rfl) (by kernel_rfl) ?_ (fun hLst hHeld => ?_)
    · first | exact hM0 | exact hM3.out | exact hM5 | exact hM6.out
    first | (refine tws (i := 0) (v := ?_) hLst ?_ hHeld ?_; rotate_left; focus (intro w hSw; (try dsimp only at hSw); go_simp; (try with_reducible rfl); done)) | refine tns (i := 0) hLst hHeld ?_
    try simp only [Act.put, List.setIfInBounds_toArray, List.set_cons_zero, List.set_cons_succ]
    first | (refine tws (i := 1) (v := ?_) hLst ?_ hHeld ?_; rotate_left; focus (intro w hSw; (try dsimp only at hSw); go_simp; (try with_reducible rfl); done)) | refine tns (i := 1) hLst hHeld ?_
    try simp only [Act.put, List.setIfInBounds_toArray, List.set_cons_zero, List.set_cons_succ]
    first | (refine tws (i := 2) (v := ?_) hLst ?_ hHeld ?_; rotate_left; focus (intro w hSw; (try dsimp only at hSw); go_simp; (try with_reducible rfl); done)) | refine tns (i := 2) hLst hHeld ?_
    try simp only [Act.put, List.setIfInBounds_toArray, List.set_cons_zero, List.set_cons_succ]
    first | (refine tws (i := 3) (v := ?_) hLst ?_ hHeld ?_; rotate_left; focus (intro w hSw; (try dsimp only at hSw); go_simp; (try with_reducible rfl); done)) | refine tns (i := 3) hLst hHeld ?_
    try simp only [Act.put, List.setIfInBounds_toArray, List.set_cons_zero, List.set_cons_succ]
    first | (refine tws (i := 4) (v := ?_) hLst ?_ hHeld ?_; rotate_left; focus (intro w hSw; (try dsimp only at hSw); go_simp; (try with_reducible rfl); done)) | refine tns (i := 4) hLst hHeld ?_
    try simp only [Act.put, List.setIfInBounds_toArray, List.set_cons_zero, List.set_cons_succ]
    first | (refine tws (i := 5) (v := ?_) hLst ?_ hHeld ?_; rotate_left; focus (intro w hSw; (try dsimp only at hSw); go_simp; (try with_reducible rfl); done)) | refine tns (i := 5) hLst hHeld ?_
    try simp only [Act.put, List.setIfInBounds_toArray, List.set_cons_zero, List.set_cons_succ]
    first | (refine tws (i := 6) (v := ?_) hLst ?_ hHeld ?_; rotate_left; focus (intro w hSw; (try dsimp only at hSw); go_simp; (try with_reducible rfl); done)) | refine tns (i := 6) hLst hHeld ?_
    try simp only [Act.put, List.setIfInBounds_toArray, List.set_cons_zero, List.set_cons_succ]
    first | (refine tws (i := 7) (v := ?_) hLst ?_ hHeld ?_; rotate_left; focus (intro w hSw; (try dsimp only at hSw); go_simp; (try with_reducible rfl); done)) | refine tns (i := 7) hLst hHeld ?_
    try simp only [Act.put, List.setIfInBounds_toArray, List.set_cons_zero, List.set_cons_succ]
    first | (refine tws (i := 8) (v := ?_) hLst ?_ hHeld ?_; rotate_left; focus (intro w hSw; (try dsimp only at hSw); go_simp; (try with_reducible rfl); done)) | refine tns (i := 8) hLst hHeld ?_
    try simp only [Act.put, List.setIfInBounds_toArray, List.set_cons_zero, List.set_cons_succ]
    first | (refine tws (i := 9) (v := ?_) hLst ?_ hHeld ?_; rotate_left; focus (intro w hSw; (try dsimp only at hSw); go_simp; (try with_reducible rfl); done)) | refine tns (i := 9) hLst hHeld ?_
    try simp only [Act.put, List.setIfInBounds_toArray, List.set_cons_zero, List.set_cons_succ]
    first | (refine tws (i := 10) (v := ?_) hLst ?_ hHeld ?_; rotate_left; focus (intro w hSw; (try dsimp only at hSw); go_simp; (try with_reducible rfl); done)) | refine tns (i := 10) hLst hHeld ?_
    try simp only [Act.put, List.setIfInBounds_toArray, List.set_cons_zero, List.set_cons_succ]
    first | (refine tws (i := 11) (v := ?_) hLst ?_ hHeld ?_; rotate_left; focus (intro w hSw; (try dsimp only at hSw); go_simp; (try with_reducible rfl); done)) | refine tns (i := 11) hLst hHeld ?_
    try simp only [Act.put, List.setIfInBounds_toArray, List.set_cons_zero, List.set_cons_succ]
    first | (refine tws (i := 12) (v := ?_) hLst ?_ hHeld ?_; rotate_left; focus (intro w hSw; (try dsimp only at hSw); go_simp; (try with_reducible rfl); done)) | refine tns (i := 12) hLst hHeld ?_
    try simp only [Act.put, List.setIfInBounds_toArray, List.set_cons_zero, List.set_cons_succ]
    first | (refine tws (i := 13) (v := ?_) hLst ?_ hHeld ?_; rotate_left; focus (intro w hSw; (try dsimp only at hSw); go_simp; (try with_reducible rfl); done)) | refine tns (i := 13) hLst hHeld ?_
    try simp only [Act.put, List.setIfInBounds_toArray, List.set_cons_zero, List.set_cons_succ]
    first | (refine tws (i := 14) (v := ?_) hLst ?_ hHeld ?_; rotate_left; focus (intro w hSw; (try dsimp only at hSw); go_simp; (try with_reducible rfl); done)) | refine tns (i := 14) hLst hHeld ?_
    try simp only [Act.put, List.setIfInBounds_toArray, List.set_cons_zero, List.set_cons_succ]
    first | (refine tws (i := 15) (v := ?_) hLst ?_ hHeld ?_; rotate_left; focus (intro w hSw; (try dsimp only at hSw); go_simp; (try with_reducible rfl); done)) | refine tns (i := 15) hLst hHeld ?_
    try simp only [Act.put, List.setIfInBounds_toArray, List.set_cons_zero, List.set_cons_succ]
    first | (refine tws (i := 16) (v := ?_) hLst ?_ hHeld ?_; rotate_left; focus (intro w hSw; (try dsimp only at hSw); go_simp; (try with_reducible rfl); done)) | refine tns (i := 16) hLst hHeld ?_
    try simp only [Act.put, List.setIfInBounds_toArray, List.set_cons_zero, List.set_cons_succ]
    first | (refine tws (i := 17) (v := ?_) hLst ?_ hHeld ?_; rotate_left; focus (intro w hSw; (try dsimp only at hSw); go_simp; (try with_reducible rfl); done)) | refine tns (i := 17) hLst hHeld ?_
    try simp only [Act.put, List.setIfInBounds_toArray, List.set_cons_zero, List.set_cons_succ]
    first | (refine tws (i := 18) (v := ?_) hLst ?_ hHeld ?_; rotate_left; focus (intro w hSw; (try dsimp only at hSw); go_simp; (try with_reducible rfl); done)) | refine tns (i := 18) hLst hHeld ?_
    try simp only [Act.put, List.setIfInBounds_toArray, List.set_cons_zero, List.set_cons_succ]
    first | (refine tws (i := 19) (v := ?_) hLst ?_ hHeld ?_; rotate_left; focus (intro w hSw; (try dsimp only at hSw); go_simp; (try with_reducible rfl); done)) | refine tns (i := 19) hLst hHeld ?_
    try simp only [Act.put, List.setIfInBounds_toArray, List.set_cons_zero, List.set_cons_succ]
    first | (refine tws (i := 20) (v := ?_) hLst ?_ hHeld ?_; rotate_left; focus (intro w hSw; (try dsimp only at hSw); go_simp; (try with_reducible rfl); done)) | refine tns (i := 20) hLst hHeld ?_
    try simp only [Act.put, List.setIfInBounds_toArray, List.set_cons_zero, List.set_cons_succ]
    refine call_nexts (i := 21) (by kernel_rfl) (by rfl) ?_
    intro o ho K hK
    simp only [List.getElem?_toArray, List.getElem?_cons_succ, List.getElem?_cons_zero, Option.some.injEq] at ho
    subst ho
    first | (fail; refine hK.out _ _ ?_ (fun hHeld => ?_)) | (go_simp; first | (with_reducible refine hK.out _ _ ?_ (fun hHeld => ?_)) | (fail; refine hK.out _ _ ?_ (fun hHeld => ?_)))
    · first | exact hM0 | exact hM3.out | exact hM5 | exact hM6.out
    clear hK K
    try simp only [Act.put, List.setIfInBounds_toArray, List.set_cons_zero, List.set_cons_succ]
    first | (refine tws (i := 22) (v := ?_) hLst ?_ hHeld ?_; rotate_left; focus (intro w hSw; (try dsimp only at hSw); go_simp; (try with_reducible rfl); done)) | refine tns (i := 22) hLst hHeld ?_
    try simp only [Act.put, List.setIfInBounds_toArray, List.set_cons_zero, List.set_cons_succ]
    refine call_nexts (i := 23) (by kernel_rfl) (by rfl) ?_
    intro o ho K hK
    simp only [List.getElem?_toArray, List.getElem?_cons_succ, List.getElem?_cons_zero, Option.some.injEq] at ho
    subst ho
    first | (fail; refine hK.out _ _ ?_ (fun hHeld => ?_)) | (go_simp; first | (with_reducible refine hK.out _ _ ?_ (fun hHeld => ?_)) | (fail; refine hK.out _ _ ?_ (fun hHeld => ?_)))
    · first | exact hM0 | exact hM3.out | exact hM5 | exact hM6.out
    clear hK K
    try simp only [Act.put, List.setIfInBounds_toArray, List.set_cons_zero, List.set_cons_succ]
    refine call_last (by kernel_rfl) (by kernel_rfl) (by rfl) ?_
    intro o ho K hK
    simp only [List.getElem?_toArray, List.getElem?_cons_succ, List.getElem?_cons_zero, Option.some.injEq] at ho
    subst ho
    first | (fail; refine hK.out _ _ ?_) | (go_simp; first | (with_reducible refine hK.out _ _ ?_) | (fail; refine hK.out _ _ ?_))
    clear hK K
    try simp only [Act.put, List.setIfInBounds_toArray, List.set_cons_zero, List.set_cons_succ]
    have hRF := V2.below (hR6.out.put nA nB) (bdrw _)
    have hbF := bt ((hb6.out.setCell (p := ⟨w.heap.size, 0, none⟩) (Nat.le_refl _) (.int .i64 nA)).setCell (p := ⟨w.heap.size, 1, none⟩) (Nat.le_refl _) (.int .i64 nB)) (bdrw _)
    have r0 := hRF.c0
    have r1 := hRF.c1
    clear hRF
    replace hbF := Lib.hid hbF
    clear hR6 hb6 hM3 hR2 hb2 q0 q1 f0 f1 hM0
    generalize ((W6.setCell ⟨w.heap.size, 0, none⟩ (.int .i64 nA)).setCell ⟨w.heap.size, 1, none⟩ (.int .i64 nB)).drew = WF at *
    go_wp2
    refine bodyPost_ret (v := .tuple #[.agg #[.int .i64 nA, .int .i64 nB], .bool false]) (by simp [results, Tryd.results25, go_sem, r0, r1]) rfl ?_
    exact hE.out _ _ rfl hbF.out
  | true =>
    by_cases k1 : eA = 0
    · subst k1
      by_cases k2 : eB = 0
      · subst k2
        by_cases k3 : unE u = 0
        · rw [k3] at hUn
          by_cases k4 : u.size = 8
          · have hz : ((u.size : Int) == 8) = true := by simp; omega
            have hz2 : ((8 : Int) == 8) = true := rfl
            replace hV : ok = rightB nA nB := hV.trans (by simp [k3, k4])
            subst hV
            generalize rightB nA nB = ok at *
            clear k3
            replace hE := Lib.hid hE
            go_enter Tryd.func25, Tryd.ntmps25
            go_wp2_with (first | (go_at_call 43; (with_reducible refine (hCut.out _ hm1.out).mono ?_); rintro e1 w1 ⟨rfl, ⟨n, rfl⟩⟩; have hR2 := Lib.hid (hR1.out.below (bdraws0 _ n)); have hb2 := Lib.hid (bdraws hb1.out n)) | (go_at_call 24; (with_reducible refine (hRa.out _).mono ?_); rintro e2 w2 ⟨rfl, rfl⟩) | (go_at_call 24; (with_reducible refine (hRb.out _).mono ?_); rintro e3 w3 ⟨rfl, rfl⟩) | (go_at_call 44; (with_reducible refine (hUn.out _).mono ?_); rintro e4 w4 ⟨rfl, hA⟩; replace hR2 := Lib.hid (hR2.out.below hA); replace hb2 := Lib.hid (bt hb2.out hA); clear hA; have q0 := hR2.out.c0; have q1 := hR2.out.c1; have f0 := hR2.out.free 0; have f1 := hR2.out.free 1))
            clear q0 q1 f0 f1
            replace hR2 := Lib.hid (hR2.out.put nA nB)
            replace hb2 := Lib.hid ((hb2.out.setCell (p := ⟨w.heap.size, 0, none⟩) (Nat.le_refl _) (.int .i64 nA)).setCell (p := ⟨w.heap.size, 1, none⟩) (Nat.le_refl _) (.int .i64 nB))
            generalize (w4.setCell ⟨w.heap.size, 0, none⟩ (.int .i64 nA)).setCell ⟨w.heap.size, 1, none⟩ (.int .i64 nB) = W6 at *
            have q0 := hR2.out.c0
            have q1 := hR2.out.c1
            have f0 := hR2.out.free 0
            have f1 := hR2.out.free 1
            have hR6 := hR2
            have hb6 := hb2
            replace hR2 := Lib.hid (hR2.out.below (bdrw _))
            replace hb2 := Lib.hid (bt hb2.out (bdrw _))
            have hM0 := And.intro hR2.out.c0 hR2.out.c1
            have hM3 := And.intro (hR2.out.put nA nB).c0 (hR2.out.put nA nB).c1
            replace hM3 := Lib.hid hM3
            refine wp_region_drewS (S := (fun w' : World => w'.cell? ⟨w.heap.size, 0, none⟩ = some (.int .i64 nA) ∧ w'.cell? ⟨w.heap.size, 1, none⟩ = some (.int .i64 nB))) 24 (by kernel_rfl) (by kernel_rfl) ?_ (fun hLst hHeld => ?_)
            · first | exact hM0 | exact hM3.out | exact hM5 | exact hM6.out
            first | (refine tws (i := 0) (v := ?_) hLst ?_ hHeld ?_; rotate_left; focus (intro w hSw; (try dsimp only at hSw); go_simp; (try with_reducible rfl); done)) | refine tns (i := 0) hLst hHeld ?_
            try simp only [Act.put, List.setIfInBounds_toArray, List.set_cons_zero, List.set_cons_succ]
            first | (refine tws (i := 1) (v := ?_) hLst ?_ hHeld ?_; rotate_left; focus (intro w hSw; (try dsimp only at hSw); go_simp; (try with_reducible rfl); done)) | refine tns (i := 1) hLst hHeld ?_
            try simp only [Act.put, List.setIfInBounds_toArray, List.set_cons_zero, List.set_cons_succ]
            first | (refine tws (i := 2) (v := ?_) hLst ?_ hHeld ?_; rotate_left; focus (intro w hSw; (try dsimp only at hSw); go_simp; (try with_reducible rfl); done)) | refine tns (i := 2) hLst hHeld ?_
            try simp only [Act.put, List.setIfInBounds_toArray, List.set_cons_zero, List.set_cons_succ]
            first | (refine tws (i := 3) (v := ?_) hLst ?_ hHeld ?_; rotate_left; focus (intro w hSw; (try dsimp only at hSw); go_simp; (try with_reducible rfl); done)) | refine tns (i := 3) hLst hHeld ?_
            try simp only [Act.put, List.setIfInBounds_toArray, List.set_cons_zero, List.set_cons_succ]
            first | (refine tws (i := 4) (v := ?_) hLst ?_ hHeld ?_; rotate_left; focus (intro w hSw; (try dsimp only at hSw); go_simp; (try with_reducible rfl); done)) | refine tns (i := 4) hLst hHeld ?_
            try simp only [Act.put, List.setIfInBounds_toArray, List.set_cons_zero, List.set_cons_succ]
            first | (refine tws (i := 5) (v := ?_) hLst ?_ hHeld ?_; rotate_left; focus (intro w hSw; (try dsimp only at hSw); go_simp; (try with_reducible rfl); done)) | refine tns (i := 5) hLst hHeld ?_
            try simp only [Act.put, List.setIfInBounds_toArray, List.set_cons_zero, List.set_cons_succ]
            first | (refine tws (i := 6) (v := ?_) hLst ?_ hHeld ?_; rotate_left; focus (intro w hSw; (try dsimp only at hSw); go_simp; (try with_reducible rfl); done)) | refine tns (i := 6) hLst hHeld ?_
            try simp only [Act.put, List.setIfInBounds_toArray, List.set_cons_zero, List.set_cons_succ]
            first | (refine tws (i := 7) (v := ?_) hLst ?_ hHeld ?_; rotate_left; focus (intro w hSw; (try dsimp only at hSw); go_simp; (try with_reducible rfl); done)) | refine tns (i := 7) hLst hHeld ?_
            try simp only [Act.put, List.setIfInBounds_toArray, List.set_cons_zero, List.set_cons_succ]
            first | (refine tws (i := 8) (v := ?_) hLst ?_ hHeld ?_; rotate_left; focus (intro w hSw; (try dsimp only at hSw); go_simp; (try with_reducible rfl); done)) | refine tns (i := 8) hLst hHeld ?_
            try simp only [Act.put, List.setIfInBounds_toArray, List.set_cons_zero, List.set_cons_succ]
            first | (refine tws (i := 9) (v := ?_) hLst ?_ hHeld ?_; rotate_left; focus (intro w hSw; (try dsimp only at hSw); go_simp; (try with_reducible rfl); done)) | refine tns (i := 9) hLst hHeld ?_
            try simp only [Act.put, List.setIfInBounds_toArray, List.set_cons_zero, List.set_cons_succ]
            first | (refine tws (i := 10) (v := ?_) hLst ?_ hHeld ?_; rotate_left; focus (intro w hSw; (try dsimp only at hSw); go_simp; (try with_reducible rfl); done)) | refine tns (i := 10) hLst hHeld ?_
            try simp only [Act.put, List.setIfInBounds_toArray, List.set_cons_zero, List.set_cons_succ]
            first | (refine tws (i := 11) (v := ?_) hLst ?_ hHeld ?_; rotate_left; focus (intro w hSw; (try dsimp only at hSw); go_simp; (try with_reducible rfl); done)) | refine tns (i := 11) hLst hHeld ?_
            try simp only [Act.put, List.setIfInBounds_toArray, List.set_cons_zero, List.set_cons_succ]
            first | (refine tws (i := 12) (v := ?_) hLst ?_ hHeld ?_; rotate_left; focus (intro w hSw; (try dsimp only at hSw); go_simp; (try with_reducible rfl); done)) | refine tns (i := 12) hLst hHeld ?_
            try simp only [Act.put, List.setIfInBounds_toArray, List.set_cons_zero, List.set_cons_succ]
            first | (refine tws (i := 13) (v := ?_) hLst ?_ hHeld ?_; rotate_left; focus (intro w hSw; (try dsimp only at hSw); go_simp; (try with_reducible rfl); done)) | refine tns (i := 13) hLst hHeld ?_
            try simp only [Act.put, List.setIfInBounds_toArray, List.set_cons_zero, List.set_cons_succ]
            first | (refine tws (i := 14) (v := ?_) hLst ?_ hHeld ?_; rotate_left; focus (intro w hSw; (try dsimp only at hSw); go_simp; (try with_reducible rfl); done)) | refine tns (i := 14) hLst hHeld ?_
            try simp only [Act.put, List.setIfInBounds_toArray, List.set_cons_zero, List.set_cons_succ]
            first | (refine tws (i := 15) (v := ?_) hLst ?_ hHeld ?_; rotate_left; focus (intro w hSw; (try dsimp only at hSw); go_simp; (try with_reducible rfl); done)) | refine tns (i := 15) hLst hHeld ?_
            try simp only [Act.put, List.setIfInBounds_toArray, List.set_cons_zero, List.set_cons_succ]
            first | (refine tws (i := 16) (v := ?_) hLst ?_ hHeld ?_; rotate_left; focus (intro w hSw; (try dsimp only at hSw); go_simp; (try with_reducible rfl); done)) | refine tns (i := 16) hLst hHeld ?_
            try simp only [Act.put, List.setIfInBounds_toArray, List.set_cons_zero, List.set_cons_succ]
            first | (refine tws (i := 17) (v := ?_) hLst ?_ hHeld ?_; rotate_left; focus (intro w hSw; (try dsimp only at hSw); go_simp; (try with_reducible rfl); done)) | refine tns (i := 17) hLst hHeld ?_
            try simp only [Act.put, List.setIfInBounds_toArray, List.set_cons_zero, List.set_cons_succ]
            first | (refine tws (i := 18) (v := ?_) hLst ?_ hHeld ?_; rotate_left; focus (intro w hSw; (try dsimp only at hSw); go_simp; (try with_reducible rfl); done)) | refine tns (i := 18) hLst hHeld ?_
            try simp only [Act.put, List.setIfInBounds_toArray, List.set_cons_zero, List.set_cons_succ]
            first | (refine tws (i := 19) (v := ?_) hLst ?_ hHeld ?_; rotate_left; focus (intro w hSw; (try dsimp only at hSw); go_simp; (try with_reducible rfl); done)) | refine tns (i := 19) hLst hHeld ?_
            try simp only [Act.put, List.setIfInBounds_toArray, List.set_cons_zero, List.set_cons_succ]
            first | (refine tws (i := 20) (v := ?_) hLst ?_ hHeld ?_; rotate_left; focus (intro w hSw; (try dsimp only at hSw); go_simp; (try with_reducible rfl); done)) | refine tns (i := 20) hLst hHeld ?_
            try simp only [Act.put, List.setIfInBounds_toArray, List.set_cons_zero, List.set_cons_succ]
            refine call_nexts (i := 21) (by kernel_rfl) (by rfl) ?_
            intro o ho K hK
            simp only [List.getElem?_toArray, List.getElem?_cons_succ, List.getElem?_cons_zero, Option.some.injEq] at ho
            subst ho
            first | (fail; refine hK.out _ _ ?_ (fun hHeld => ?_)) | (go_simp; first | (with_reducible refine hK.out _ _ ?_ (fun hHeld => ?_)) | ((go_at_call 45; (with_reducible refine (hRi.out _).mono ?_); rintro e5 w5 ⟨rfl, hA⟩; have hR5 := hR2.out.below hA; have hM5 := And.intro hR5.c0 hR5.c1; have p0 := hR5.c0; have p1 := hR5.c1; have g0 := hR5.free 0; have g1 := hR5.free 1; have hb5 := bt hb2.out hA; have hM6 := Lib.hid (And.intro (hR5.put nA nB).c0 (hR5.put nA nB).c1); replace hR5 := Lib.hid hR5; replace hb5 := Lib.hid hb5; clear hA); refine hK.out _ _ ?_ (fun hHeld => ?_)))
            · first | exact hM0 | exact hM3.out | exact hM5 | exact hM6.out
            clear hK K
            try simp only [Act.put, List.setIfInBounds_toArray, List.set_cons_zero, List.set_cons_succ]
            first | (refine tws (i := 22) (v := ?_) hLst ?_ hHeld ?_; rotate_left; focus (intro w hSw; (try dsimp only at hSw); go_simp; (try with_reducible rfl); done)) | refine tns (i := 22) hLst hHeld ?_
            try simp only [Act.put, List.setIfInBounds_toArray, List.set_cons_zero, List.set_cons_succ]
            refine call_nexts (i := 23) (by kernel_rfl) (by rfl) ?_
            intro o ho K hK
            simp only [List.getElem?_toArray, List.getElem?_cons_succ, List.getElem?_cons_zero, Option.some.injEq] at ho
            subst ho
            first | (fail; refine hK.out _ _ ?_ (fun hHeld => ?_)) | (go_simp; first | (with_reducible refine hK.out _ _ ?_ (fun hHeld => ?_)) | ((go_at_call 45; (with_reducible refine (hRi.out _).mono ?_); rintro e5 w5 ⟨rfl, hA⟩; have hR5 := hR2.out.below hA; have hM5 := And.intro hR5.c0 hR5.c1; have p0 := hR5.c0; have p1 := hR5.c1; have g0 := hR5.free 0; have g1 := hR5.free 1; have hb5 := bt hb2.out hA; have hM6 := Lib.hid (And.intro (hR5.put nA nB).c0 (hR5.put nA nB).c1); replace hR5 := Lib.hid hR5; replace hb5 := Lib.hid hb5; clear hA); refine hK.out _ _ ?_ (fun hHeld => ?_)))
            · first | exact hM0 | exact hM3.out | exact hM5 | exact hM6.out
            clear hK K
            try simp only [Act.put, List.setIfInBounds_toArray, List.set_cons_zero, List.set_cons_succ]
            refine call_last (by kernel_rfl) (by kernel_rfl) (by rfl) ?_
            intro o ho K hK
            simp only [List.getElem?_toArray, List.getElem?_cons_succ, List.getElem?_cons_zero, Option.some.injEq] at ho
            subst ho
            first | (fail; refine hK.out _ _ ?_) | (go_simp; first | (with_reducible refine hK.out _ _ ?_) | ((go_at_call 45; (with_reducible refine (hRi.out _).mono ?_); rintro e5 w5 ⟨rfl, hA⟩; have hR5 := hR2.out.below hA; have hM5 := And.intro hR5.c0 hR5.c1; have p0 := hR5.c0; have p1 := hR5.c1; have g0 := hR5.free 0; have g1 := hR5.free 1; have hb5 := bt hb2.out hA; have hM6 := Lib.hid (And.intro (hR5.put nA nB).c0 (hR5.put nA nB).c1); replace hR5 := Lib.hid hR5; replace hb5 := Lib.hid hb5; clear hA); refine hK.out _ _ ?_))
            clear hK K
            try simp only [Act.put, List.setIfInBounds_toArray, List.set_cons_zero, List.set_cons_succ]
            have hRF := hR5.out.put nA nB
            have hbF := (hb5.out.setCell (p := ⟨w.heap.size, 0, none⟩) (Nat.le_refl _) (.int .i64 nA)).setCell (p := ⟨w.heap.size, 1, none⟩) (Nat.le_refl _) (.int .i64 nB)
            have r0 := hRF.c0
            have r1 := hRF.c1
            clear hRF
            replace hbF := Lib.hid hbF
            clear hR6 hb6 hM3 hR2 hb2 q0 q1 f0 f1 hM0 hR5 hM6 p0 p1 hM5 g0 g1 hb5
            generalize ((w5.setCell ⟨w.heap.size, 0, none⟩ (.int .i64 nA)).setCell ⟨w.heap.size, 1, none⟩ (.int .i64 nB)) = WF at *
            go_wp2
            refine bodyPost_ret (v := .tuple #[.agg #[.int .i64 nA, .int .i64 nB], .bool ok]) (by simp [results, Tryd.results25, go_sem, r0, r1]) rfl ?_
            exact hE.out _ _ rfl hbF.out
          · have hz : ((u.size : Int) == 8) = false := by rw [beq_eq_false_iff_ne]; omega
            replace hV : ok = false := hV.trans (by simp [k4])
            subst hV
            clear hRi k3 k4
            replace hE := Lib.hid hE
            go_enter Tryd.func25, Tryd.ntmps25
            go_wp2_with (first | (go_at_call 43; (with_reducible refine (hCut.out _ hm1.out).mono ?_); rintro e1 w1 ⟨rfl, ⟨n, rfl⟩⟩; have hR2 := Lib.hid (hR1.out.below (bdraws0 _ n)); have hb2 := Lib.hid (bdraws hb1.out n)) | (go_at_call 24; (with_reducible refine (hRa.out _).mono ?_); rintro e2 w2 ⟨rfl, rfl⟩) | (go_at_call 24; (with_reducible refine (hRb.out _).mono ?_); rintro e3 w3 ⟨rfl, rfl⟩) | (go_at_call 44; (with_reducible refine (hUn.out _).mono ?_); rintro e4 w4 ⟨rfl, hA⟩; replace hR2 := Lib.hid (hR2.out.below hA); replace hb2 := Lib.hid (bt hb2.out hA); clear hA; have q0 := hR2.out.c0; have q1 := hR2.out.c1; have f0 := hR2.out.free 0; have f1 := hR2.out.free 1))
            clear q0 q1 f0 f1
            replace hR2 := Lib.hid (hR2.out.put nA nB)
            replace hb2 := Lib.hid ((hb2.out.setCell (p := ⟨w.heap.size, 0, none⟩) (Nat.le_refl _) (.int .i64 nA)).setCell (p := ⟨w.heap.size, 1, none⟩) (Nat.le_refl _) (.int .i64 nB))
            generalize (w4.setCell ⟨w.heap.size, 0, none⟩ (.int .i64 nA)).setCell ⟨w.heap.size, 1, none⟩ (.int .i64 nB) = W6 at *
            have q0 := hR2.out.c0
            have q1 := hR2.out.c1
            have f0 := hR2.out.free 0
            have f1 := hR2.out.free 1
            have hR6 := hR2
            have hb6 := hb2
            replace hR2 := Lib.hid (hR2.out.below (bdrw _))
            replace hb2 := Lib.hid (bt hb2.out (bdrw _))
            have hM0 := And.intro hR2.out.c0 hR2.out.c1
            have hM3 := And.intro (hR2.out.put nA nB).c0 (hR2.out.put nA nB).c1
            replace hM3 := Lib.hid hM3
            refine wp_region_drewS (S := (fun w' : World => w'.cell? ⟨w.heap.size, 0, none⟩ = some (.int .i64 nA) ∧ w'.cell? ⟨w.heap.size, 1, none⟩ = some (.int .i64 nB))) 24 (by kernel_rfl) (by kernel_rfl) ?_ (fun hLst hHeld => ?_)
            · first | exact hM0 | exact hM3.out | exact hM5 | exact hM6.out
            first | (refine tws (i := 0) (v := ?_) hLst ?_ hHeld ?_; rotate_left; focus (intro w hSw; (try dsimp only at hSw); go_simp; (try with_reducible rfl); done)) | refine tns (i := 0) hLst hHeld ?_
            try simp only [Act.put, List.setIfInBounds_toArray, List.set_cons_zero, List.set_cons_succ]
            first | (refine tws (i := 1) (v := ?_) hLst ?_ hHeld ?_; rotate_left; focus (intro w hSw; (try dsimp only at hSw); go_simp; (try with_reducible rfl); done)) | refine tns (i := 1) hLst hHeld ?_
            try simp only [Act.put, List.setIfInBounds_toArray, List.set_cons_zero, List.set_cons_succ]
            first | (refine tws (i := 2) (v := ?_) hLst ?_ hHeld ?_; rotate_left; focus (intro w hSw; (try dsimp only at hSw); go_simp; (try with_reducible rfl); done)) | refine tns (i := 2) hLst hHeld ?_
            try simp only [Act.put, List.setIfInBounds_toArray, List.set_cons_zero, List.set_cons_succ]
            first | (refine tws (i := 3) (v := ?_) hLst ?_ hHeld ?_; rotate_left; focus (intro w hSw; (try dsimp only at hSw); go_simp; (try with_reducible rfl); done)) | refine tns (i := 3) hLst hHeld ?_
            try simp only [Act.put, List.setIfInBounds_toArray, List.set_cons_zero, List.set_cons_succ]
            first | (refine tws (i := 4) (v := ?_) hLst ?_ hHeld ?_; rotate_left; focus (intro w hSw; (try dsimp only at hSw); go_simp; (try with_reducible rfl); done)) | refine tns (i := 4) hLst hHeld ?_
            try simp only [Act.put, List.setIfInBounds_toArray, List.set_cons_zero, List.set_cons_succ]
            first | (refine tws (i := 5) (v := ?_) hLst ?_ hHeld ?_; rotate_left; focus (intro w hSw; (try dsimp only at hSw); go_simp; (try with_reducible rfl); done)) | refine tns (i := 5) hLst hHeld ?_
            try simp only [Act.put, List.setIfInBounds_toArray, List.set_cons_zero, List.set_cons_succ]
            first | (refine tws (i := 6) (v := ?_) hLst ?_ hHeld ?_; rotate_left; focus (intro w hSw; (try dsimp only at hSw); go_simp; (try with_reducible rfl); done)) | refine tns (i := 6) hLst hHeld ?_
            try simp only [Act.put, List.setIfInBounds_toArray, List.set_cons_zero, List.set_cons_succ]
            first | (refine tws (i := 7) (v := ?_) hLst ?_ hHeld ?_; rotate_left; focus (intro w hSw; (try dsimp only at hSw); go_simp; (try with_reducible rfl); done)) | refine tns (i := 7) hLst hHeld ?_
            try simp only [Act.put, List.setIfInBounds_toArray, List.set_cons_zero, List.set_cons_succ]
            first | (refine tws (i := 8) (v := ?_) hLst ?_ hHeld ?_; rotate_left; focus (intro w hSw; (try dsimp only at hSw); go_simp; (try with_reducible rfl); done)) | refine tns (i := 8) hLst hHeld ?_
            try simp only [Act.put, List.setIfInBounds_toArray, List.set_cons_zero, List.set_cons_succ]
            first | (refine tws (i := 9) (v := ?_) hLst ?_ hHeld ?_; rotate_left; focus (intro w hSw; (try dsimp only at hSw); go_simp; (try with_reducible rfl); done)) | refine tns (i := 9) hLst hHeld ?_
            try simp only [Act.put, List.setIfInBounds_toArray, List.set_cons_zero, List.set_cons_succ]
            first | (refine tws (i := 10) (v := ?_) hLst ?_ hHeld ?_; rotate_left; focus (intro w hSw; (try dsimp only at hSw); go_simp; (try with_reducible rfl); done)) | refine tns (i := 10) hLst hHeld ?_
            try simp only [Act.put, List.setIfInBounds_toArray, List.set_cons_zero, List.set_cons_succ]
            first | (refine tws (i := 11) (v := ?_) hLst ?_ hHeld ?_; rotate_left; focus (intro w hSw; (try dsimp only at hSw); go_simp; (try with_reducible rfl); done)) | refine tns (i := 11) hLst hHeld ?_
            try simp only [Act.put, List.setIfInBounds_toArray, List.set_cons_zero, List.set_cons_succ]
            first | (refine tws (i := 12) (v := ?_) hLst ?_ hHeld ?_; rotate_left; focus (intro w hSw; (try dsimp only at hSw); go_simp; (try with_reducible rfl); done)) | refine tns (i := 12) hLst hHeld ?_
            try simp only [Act.put, List.setIfInBounds_toArray, List.set_cons_zero, List.set_cons_succ]
            first | (refine tws (i := 13) (v := ?_) hLst ?_ hHeld ?_; rotate_left; focus (intro w hSw; (try dsimp only at hSw); go_simp; (try with_reducible rfl); done)) | refine tns (i := 13) hLst hHeld ?_
            try simp only [Act.put, List.setIfInBounds_toArray, List.set_cons_zero, List.set_cons_succ]
            first | (refine tws (i := 14) (v := ?_) hLst ?_ hHeld ?_; rotate_left; focus (intro w hSw; (try dsimp only at hSw); go_simp; (try with_reducible rfl); done)) | refine tns (i := 14) hLst hHeld ?_
            try simp only [Act.put, List.setIfInBounds_toArray, List.set_cons_zero, List.set_cons_succ]
            first | (refine tws (i := 15) (v := ?_) hLst ?_ hHeld ?_; rotate_left; focus (intro w hSw; (try dsimp only at hSw); go_simp; (try with_reducible rfl); done)) | refine tns (i := 15) hLst hHeld ?_
            try simp only [Act.put, List.setIfInBounds_toArray, List.set_cons_zero, List.set_cons_succ]
            first | (refine tws (i := 16) (v := ?_) hLst ?_ hHeld ?_; rotate_left; focus (intro w hSw; (try dsimp only at hSw); go_simp; (try with_reducible rfl); done)) | refine tns (i := 16) hLst hHeld ?_
            try simp only [Act.put, List.setIfInBounds_toArray, List.set_cons_zero, List.set_cons_succ]
            first | (refine tws (i := 17) (v := ?_) hLst ?_ hHeld ?_; rotate_left; focus (intro w hSw; (try dsimp only at hSw); go_simp; (try with_reducible rfl); done)) | refine tns (i := 17) hLst hHeld ?_
            try simp only [Act.put, List.setIfInBounds_toArray, List.set_cons_zero, List.set_cons_succ]
            first | (refine tws (i := 18) (v := ?_) hLst ?_ hHeld ?_; rotate_left; focus (intro w hSw; (try dsimp only at hSw); go_simp; (try with_reducible rfl); done)) | refine tns (i := 18) hLst hHeld ?_
            try simp only [Act.put, List.setIfInBounds_toArray, List.set_cons_zero, List.set_cons_succ]
            first | (refine tws (i := 19) (v := ?_) hLst ?_ hHeld ?_; rotate_left; focus (intro w hSw; (try dsimp only at hSw); go_simp; (try with_reducible rfl); done)) | refine tns (i := 19) hLst hHeld ?_
            try simp only [Act.put, List.setIfInBounds_toArray, List.set_cons_zero, List.set_cons_succ]
            first | (refine tws (i := 20) (v := ?_) hLst ?_ hHeld ?_; rotate_left; focus (intro w hSw; (try dsimp only at hSw); go_simp; (try with_reducible rfl); done)) | refine tns (i := 20) hLst hHeld ?_
            try simp only [Act.put, List.setIfInBounds_toArray, List.set_cons_zero, List.set_cons_succ]
            refine call_nexts (i := 21) (by kernel_rfl) (by rfl) ?_
            intro o ho K hK
            simp only [List.getElem?_toArray, List.getElem?_cons_succ, List.getElem?_cons_zero, Option.some.injEq] at ho
            subst ho
            first | (fail; refine hK.out _ _ ?_ (fun hHeld => ?_)) | (go_simp; first | (with_reducible refine hK.out _ _ ?_ (fun hHeld => ?_)) | (fail; refine hK.out _ _ ?_ (fun hHeld => ?_)))
            · first | exact hM0 | exact hM3.out | exact hM5 | exact hM6.out
            clear hK K
            try simp only [Act.put, List.setIfInBounds_toArray, List.set_cons_zero, List.set_cons_succ]
            first | (refine tws (i := 22) (v := ?_) hLst ?_ hHeld ?_; rotate_left; focus (intro w hSw; (try dsimp only at hSw); go_simp; (try with_reducible rfl); done)) | refine tns (i := 22) hLst hHeld ?_
            try simp only [Act.put, List.setIfInBounds_toArray, List.set_cons_zero, List.set_cons_succ]
            refine call_nexts (i := 23) (by kernel_rfl) (by rfl) ?_
            intro o ho K hK
            simp only [List.getElem?_toArray, List.getElem?_cons_succ, List.getElem?_cons_zero, Option.some.injEq] at ho
            subst ho
            first | (fail; refine hK.out _ _ ?_ (fun hHeld => ?_)) | (go_simp; first | (with_reducible refine hK.out _ _ ?_ (fun hHeld => ?_)) | (fail; refine hK.out _ _ ?_ (fun hHeld => ?_)))
            · first | exact hM0 | exact hM3.out | exact hM5 | exact hM6.out
            clear hK K
            try simp only [Act.put, List.setIfInBounds_toArray, List.set_cons_zero, List.set_cons_succ]
            refine call_last (by kernel_rfl) (by kernel_rfl) (by rfl) ?_
            intro o ho K hK
            simp only [List.getElem?_toArray, List.getElem?_cons_succ, List.getElem?_cons_zero, Option.some.injEq] at ho
            subst ho
            first | (fail; refine hK.out _ _ ?_) | (go_simp; first | (with_reducible refine hK.out _ _ ?_) | (fail; refine hK.out _ _ ?_))
            clear hK K
            try simp only [Act.put, List.setIfInBounds_toArray, List.set_cons_zero, List.set_cons_succ]
            have hRF := V2.below (hR6.out.put nA nB) (bdrw _)
            have hbF := bt ((hb6.out.setCell (p := ⟨w.heap.size, 0, none⟩) (Nat.le_refl _) (.int .i64 nA)).setCell (p := ⟨w.heap.size, 1, none⟩) (Nat.le_refl _) (.int .i64 nB)) (bdrw _)
            have r0 := hRF.c0
            have r1 := hRF.c1
            clear hRF
            replace hbF := Lib.hid hbF
            clear hR6 hb6 hM3 hR2 hb2 q0 q1 f0 f1 hM0
            generalize ((W6.setCell ⟨w.heap.size, 0, none⟩ (.int .i64 nA)).setCell ⟨w.heap.size, 1, none⟩ (.int .i64 nB)).drew = WF at *
            go_wp2
            refine bodyPost_ret (v := .tuple #[.agg #[.int .i64 nA, .int .i64 nB], .bool false]) (by simp [results, Tryd.results25, go_sem, r0, r1]) rfl ?_
            exact hE.out _ _ rfl hbF.out
        · have hz : (unE u == 0) = false := by simpa using k3
          replace hV : ok = false := hV.trans (by simp [k3])
          subst hV
          clear hRi
          generalize unE u = eU at *
          clear k3
          replace hE := Lib.hid hE
          go_enter Tryd.func25, Tryd.ntmps25
          go_wp2_with (first | (go_at_call 43; (with_reducible refine (hCut.out _ hm1.out).mono ?_); rintro e1 w1 ⟨rfl, ⟨n, rfl⟩⟩; have hR2 := Lib.hid (hR1.out.below (bdraws0 _ n)); have hb2 := Lib.hid (bdraws hb1.out n)) | (go_at_call 24; (with_reducible refine (hRa.out _).mono ?_); rintro e2 w2 ⟨rfl, rfl⟩) | (go_at_call 24; (with_reducible refine (hRb.out _).mono ?_); rintro e3 w3 ⟨rfl, rfl⟩) | (go_at_call 44; (with_reducible refine (hUn.out _).mono ?_); rintro e4 w4 ⟨rfl, hA⟩; replace hR2 := Lib.hid (hR2.out.below hA); replace hb2 := Lib.hid (bt hb2.out hA); clear hA; have q0 := hR2.out.c0; have q1 := hR2.out.c1; have f0 := hR2.out.free 0; have f1 := hR2.out.free 1))
          clear q0 q1 f0 f1
          replace hR2 := Lib.hid (hR2.out.put nA nB)
          replace hb2 := Lib.hid ((hb2.out.setCell (p := ⟨w.heap.size, 0, none⟩) (Nat.le_refl _) (.int .i64 nA)).setCell (p := ⟨w.heap.size, 1, none⟩) (Nat.le_refl _) (.int .i64 nB))
          generalize (w4.setCell ⟨w.heap.size, 0, none⟩ (.int .i64 nA)).setCell ⟨w.heap.size, 1, none⟩ (.int .i64 nB) = W6 at *
          have q0 := hR2.out.c0
          have q1 := hR2.out.c1
          have f0 := hR2.out.free 0
          have f1 := hR2.out.free 1
          have hR6 := hR2
          have hb6 := hb2
          replace hR2 := Lib.hid (hR2.out.below (bdrw _))
          replace hb2 := Lib.hid (bt hb2.out (bdrw _))
          have hM0 := And.intro hR2.out.c0 hR2.out.c1
          have hM3 := And.intro (hR2.out.put nA nB).c0 (hR2.out.put nA nB).c1
          replace hM3 := Lib.hid hM3
          refine wp_region_drewS (S := (fun w' : World => w'.cell? ⟨w.heap.size, 0, none⟩ = some (.int .i64 nA) ∧ w'.cell? ⟨w.heap.size, 1, none⟩ = some (.int .i64 nB))) 24 (by kernel_rfl) (by kernel_rfl) ?_ (fun hLst hHeld => ?_)
          · first | exact hM0 | exact hM3.out | exact hM5 | exact hM6.out
          first | (refine tws (i := 0) (v := ?_) hLst ?_ hHeld ?_; rotate_left; focus (intro w hSw; (try dsimp only at hSw); go_simp; (try with_reducible rfl); done)) | refine tns (i := 0) hLst hHeld ?_
          try simp only [Act.put, List.setIfInBounds_toArray, List.set_cons_zero, List.set_cons_succ]
          first | (refine tws (i := 1) (v := ?_) hLst ?_ hHeld ?_; rotate_left; focus (intro w hSw; (try dsimp only at hSw); go_simp; (try with_reducible rfl); done)) | refine tns (i := 1) hLst hHeld ?_
          try simp only [Act.put, List.setIfInBounds_toArray, List.set_cons_zero, List.set_cons_succ]
          first | (refine tws (i := 2) (v := ?_) hLst ?_ hHeld ?_; rotate_left; focus (intro w hSw; (try dsimp only at hSw); go_simp; (try with_reducible rfl); done)) | refine tns (i := 2) hLst hHeld ?_
          try simp only [Act.put, List.setIfInBounds_toArray, List.set_cons_zero, List.set_cons_succ]
          first | (refine tws (i := 3) (v := ?_) hLst ?_ hHeld ?_; rotate_left; focus (intro w hSw; (try dsimp only at hSw); go_simp; (try with_reducible rfl); done)) | refine tns (i := 3) hLst hHeld ?_
          try simp only [Act.put, List.setIfInBounds_toArray, List.set_cons_zero, List.set_cons_succ]
          first | (refine tws (i := 4) (v := ?_) hLst ?_ hHeld ?_; rotate_left; focus (intro w hSw; (try dsimp only at hSw); go_simp; (try with_reducible rfl); done)) | refine tns (i := 4) hLst hHeld ?_
          try simp only [Act.put, List.setIfInBounds_toArray, List.set_cons_zero, List.set_cons_succ]
          first | (refine tws (i := 5) (v := ?_) hLst ?_ hHeld ?_; rotate_left; focus (intro w hSw; (try dsimp only at hSw); go_simp; (try with_reducible rfl); done)) | refine tns (i := 5) hLst hHeld ?_
          try simp only [Act.put, List.setIfInBounds_toArray, List.set_cons_zero, List.set_cons_succ]
          first | (refine tws (i := 6) (v := ?_) hLst ?_ hHeld ?_; rotate_left; focus (intro w hSw; (try dsimp only at hSw); go_simp; (try with_reducible rfl); done)) | refine tns (i := 6) hLst hHeld ?_
          try simp only [Act.put, List.setIfInBounds_toArray, List.set_cons_zero, List.set_cons_succ]
          first | (refine tws (i := 7) (v := ?_) hLst ?_ hHeld ?_; rotate_left; focus (intro w hSw; (try dsimp only at hSw); go_simp; (try with_reducible rfl); done)) | refine tns (i := 7) hLst hHeld ?_
          try simp only [Act.put, List.setIfInBounds_toArray, List.set_cons_zero, List.set_cons_succ]
          first | (refine tws (i := 8) (v := ?_) hLst ?_ hHeld ?_; rotate_left; focus (intro w hSw; (try dsimp only at hSw); go_simp; (try with_reducible rfl); done)) | refine tns (i := 8) hLst hHeld ?_
          try simp only [Act.put, List.setIfInBounds_toArray, List.set_cons_zero, List.set_cons_succ]
          first | (refine tws (i := 9) (v := ?_) hLst ?_ hHeld ?_; rotate_left; focus (intro w hSw; (try dsimp only at hSw); go_simp; (try with_reducible rfl); done)) | refine tns (i := 9) hLst hHeld ?_
          try simp only [Act.put, List.setIfInBounds_toArray, List.set_cons_zero, List.set_cons_succ]
          first | (refine tws (i := 10) (v := ?_) hLst ?_ hHeld ?_; rotate_left; focus (intro w hSw; (try dsimp only at hSw); go_simp; (try with_reducible rfl); done)) | refine tns (i := 10) hLst hHeld ?_
          try simp only [Act.put, List.setIfInBounds_toArray, List.set_cons_zero, List.set_cons_succ]
          first | (refine tws (i := 11) (v := ?_) hLst ?_ hHeld ?_; rotate_left; focus (intro w hSw; (try dsimp only at hSw); go_simp; (try with_reducible rfl); done)) | refine tns (i := 11) hLst hHeld ?_
          try simp only [Act.put, List.setIfInBounds_toArray, List.set_cons_zero, List.set_cons_succ]
          first | (refine tws (i := 12) (v := ?_) hLst ?_ hHeld ?_; rotate_left; focus (intro w hSw; (try dsimp only at hSw); go_simp; (try with_reducible rfl); done)) | refine tns (i := 12) hLst hHeld ?_
          try simp only [Act.put, List.setIfInBounds_toArray, List.set_cons_zero, List.set_cons_succ]
          first | (refine tws (i := 13) (v := ?_) hLst ?_ hHeld ?_; rotate_left; focus (intro w hSw; (try dsimp only at hSw); go_simp; (try with_reducible rfl); done)) | refine tns (i := 13) hLst hHeld ?_
          try simp only [Act.put, List.setIfInBounds_toArray, List.set_cons_zero, List.set_cons_succ]
          first | (refine tws (i := 14) (v := ?_) hLst ?_ hHeld ?_; rotate_left; focus (intro w hSw; (try dsimp only at hSw); go_simp; (try with_reducible rfl); done)) | refine tns (i := 14) hLst hHeld ?_
          try simp only [Act.put, List.setIfInBounds_toArray, List.set_cons_zero, List.set_cons_succ]
          first | (refine tws (i := 15) (v := ?_) hLst ?_ hHeld ?_; rotate_left; focus (intro w hSw; (try dsimp only at hSw); go_simp; (try with_reducible rfl); done)) | refine tns (i := 15) hLst hHeld ?_
          try simp only [Act.put, List.setIfInBounds_toArray, List.set_cons_zero, List.set_cons_succ]
          first | (refine tws (i := 16) (v := ?_) hLst ?_ hHeld ?_; rotate_left; focus (intro w hSw; (try dsimp only at hSw); go_simp; (try with_reducible rfl); done)) | refine tns (i := 16) hLst hHeld ?_
          try simp only [Act.put, List.setIfInBounds_toArray, List.set_cons_zero, List.set_cons_succ]
          first | (refine tws (i := 17) (v := ?_) hLst ?_ hHeld ?_; rotate_left; focus (intro w hSw; (try dsimp only at hSw); go_simp; (try with_reducible rfl); done)) | refine tns (i := 17) hLst hHeld ?_
          try simp only [Act.put, List.setIfInBounds_toArray, List.set_cons_zero, List.set_cons_succ]
          first | (refine tws (i := 18) (v := ?_) hLst ?_ hHeld ?_; rotate_left; focus (intro w hSw; (try dsimp only at hSw); go_simp; (try with_reducible rfl); done)) | refine tns (i := 18) hLst hHeld ?_
          try simp only [Act.put, List.setIfInBounds_toArray, List.set_cons_zero, List.set_cons_succ]
          first | (refine tws (i := 19) (v := ?_) hLst ?_ hHeld ?_; rotate_left; focus (intro w hSw; (try dsimp only at hSw); go_simp; (try with_reducible rfl); done)) | refine tns (i := 19) hLst hHeld ?_
          try simp only [Act.put, List.setIfInBounds_toArray, List.set_cons_zero, List.set_cons_succ]
          first | (refine tws (i := 20) (v := ?_) hLst ?_ hHeld ?_; rotate_left; focus (intro w hSw; (try dsimp only at hSw); go_simp; (try with_reducible rfl); done)) | refine tns (i := 20) hLst hHeld ?_
          try simp only [Act.put, List.setIfInBounds_toArray, List.set_cons_zero, List.set_cons_succ]
          refine call_nexts (i := 21) (by kernel_rfl) (by rfl) ?_
          intro o ho K hK
          simp only [List.getElem?_toArray, List.getElem?_cons_succ, List.getElem?_cons_zero, Option.some.injEq] at ho
          subst ho
          first | (fail; refine hK.out _ _ ?_ (fun hHeld => ?_)) | (go_simp; first | (with_reducible refine hK.out _ _ ?_ (fun hHeld => ?_)) | (fail; refine hK.out _ _ ?_ (fun hHeld => ?_)))
          · first | exact hM0 | exact hM3.out | exact hM5 | exact hM6.out
          clear hK K
          try simp only [Act.put, List.setIfInBounds_toArray, List.set_cons_zero, List.set_cons_succ]
          first | (refine tws (i := 22) (v := ?_) hLst ?_ hHeld ?_; rotate_left; focus (intro w hSw; (try dsimp only at hSw); go_simp; (try with_reducible rfl); done)) | refine tns (i := 22) hLst hHeld ?_
          try simp only [Act.put, List.setIfInBounds_toArray, List.set_cons_zero, List.set_cons_succ]
          refine call_nexts (i := 23) (by kernel_rfl) (by rfl) ?_
          intro o ho K hK
          simp only [List.getElem?_toArray, List.getElem?_cons_succ, List.getElem?_cons_zero, Option.some.injEq] at ho
          subst ho
          first | (fail; refine hK.out _ _ ?_ (fun hHeld => ?_)) | (go_simp; first | (with_reducible refine hK.out _ _ ?_ (fun hHeld => ?_)) | (fail; refine hK.out _ _ ?_ (fun hHeld => ?_)))
          · first | exact hM0 | exact hM3.out | exact hM5 | exact hM6.out
          clear hK K
          try simp only [Act.put, List.setIfInBounds_toArray, List.set_cons_zero, List.set_cons_succ]
          refine call_last (by kernel_rfl) (by kernel_rfl) (by rfl) ?_
          intro o ho K hK
          simp only [List.getElem?_toArray, List.getElem?_cons_succ, List.getElem?_cons_zero, Option.some.injEq] at ho
          subst ho
          first | (fail; refine hK.out _ _ ?_) | (go_simp; first | (with_reducible refine hK.out _ _ ?_) | (fail; refine hK.out _ _ ?_))
          clear hK K
          try simp only [Act.put, List.setIfInBounds_toArray, List.set_cons_zero, List.set_cons_succ]
          have hRF := V2.below (hR6.out.put nA nB) (bdrw _)
          have hbF := bt ((hb6.out.setCell (p := ⟨w.heap.size, 0, none⟩) (Nat.le_refl _) (.int .i64 nA)).setCell (p := ⟨w.heap.size, 1, none⟩) (Nat.le_refl _) (.int .i64 nB)) (bdrw _)
          have r0 := hRF.c0
          have r1 := hRF.c1
          clear hRF
          replace hbF := Lib.hid hbF
          clear hR6 hb6 hM3 hR2 hb2 q0 q1 f0 f1 hM0
          generalize ((W6.setCell ⟨w.heap.size, 0, none⟩ (.int .i64 nA)).setCell ⟨w.heap.size, 1, none⟩ (.int .i64 nB)).drew = WF at *
          go_wp2
          refine bodyPost_ret (v := .tuple #[.agg #[.int .i64 nA, .int .i64 nB], .bool false]) (by simp [results, Tryd.results25, go_sem, r0, r1]) rfl ?_
          exact hE.out _ _ rfl hbF.out
      · have hz : (eB == 0) = false := by simpa using k2
        replace hV : ok = false := hV.trans (by simp [k2])
        subst hV
        clear hRi k2
        replace hE := Lib.hid hE
        go_enter Tryd.func25, Tryd.ntmps25
        go_wp2_with (first | (go_at_call 43; (with_reducible refine (hCut.out _ hm1.out).mono ?_); rintro e1 w1 ⟨rfl, ⟨n, rfl⟩⟩; have hR2 := Lib.hid (hR1.out.below (bdraws0 _ n)); have hb2 := Lib.hid (bdraws hb1.out n)) | (go_at_call 24; (with_reducible refine (hRa.out _).mono ?_); rintro e2 w2 ⟨rfl, rfl⟩) | (go_at_call 24; (with_reducible refine (hRb.out _).mono ?_); rintro e3 w3 ⟨rfl, rfl⟩) | (go_at_call 44; (with_reducible refine (hUn.out _).mono ?_); rintro e4 w4 ⟨rfl, hA⟩; replace hR2 := Lib.hid (hR2.out.below hA); replace hb2 := Lib.hid (bt hb2.out hA); clear hA; have q0 := hR2.out.c0; have q1 := hR2.out.c1; have f0 := hR2.out.free 0; have f1 := hR2.out.free 1))
        clear q0 q1 f0 f1
        replace hR2 := Lib.hid (hR2.out.put nA nB)
        replace hb2 := Lib.hid ((hb2.out.setCell (p := ⟨w.heap.size, 0, none⟩) (Nat.le_refl _) (.int .i64 nA)).setCell (p := ⟨w.heap.size, 1, none⟩) (Nat.le_refl _) (.int .i64 nB))
        generalize (w4.setCell ⟨w.heap.size, 0, none⟩ (.int .i64 nA)).setCell ⟨w.heap.size, 1, none⟩ (.int .i64 nB) = W6 at *
        have q0 := hR2.out.c0
        have q1 := hR2.out.c1
        have f0 := hR2.out.free 0
        have f1 := hR2.out.free 1
        have hR6 := hR2
        have hb6 := hb2
        replace hR2 := Lib.hid (hR2.out.below (bdrw _))
        replace hb2 := Lib.hid (bt hb2.out (bdrw _))
        have hM0 := And.intro hR2.out.c0 hR2.out.c1
        have hM3 := And.intro (hR2.out.put nA nB).c0 (hR2.out.put nA nB).c1
        replace hM3 := Lib.hid hM3
        refine wp_region_drewS (S := (fun w' : World => w'.cell? ⟨w.heap.size, 0, none⟩ = some (.int .i64 nA) ∧ w'.cell? ⟨w.heap.size, 1, none⟩ = some (.int .i64 nB))) 24 (by kernel_rfl) (by kernel_rfl) ?_ (fun hLst hHeld => ?_)
        · first | exact hM0 | exact hM3.out | exact hM5 | exact hM6.out
        first | (refine tws (i := 0) (v := ?_) hLst ?_ hHeld ?_; rotate_left; focus (intro w hSw; (try dsimp only at hSw); go_simp; (try with_reducible rfl); done)) | refine tns (i := 0) hLst hHeld ?_
        try simp only [Act.put, List.setIfInBounds_toArray, List.set_cons_zero, List.set_cons_succ]
        first | (refine tws (i := 1) (v := ?_) hLst ?_ hHeld ?_; rotate_left; focus (intro w hSw; (try dsimp only at hSw); go_simp; (try with_reducible rfl); done)) | refine tns (i := 1) hLst hHeld ?_
        try simp only [Act.put, List.setIfInBounds_toArray, List.set_cons_zero, List.set_cons_succ]
        first | (refine tws (i := 2) (v := ?_) hLst ?_ hHeld ?_; rotate_left; focus (intro w hSw; (try dsimp only at hSw); go_simp; (try with_reducible rfl); done)) | refine tns (i := 2) hLst hHeld ?_
        try simp only [Act.put, List.setIfInBounds_toArray, List.set_cons_zero, List.set_cons_succ]
        first | (refine tws (i := 3) (v := ?_) hLst ?_ hHeld ?_; rotate_left; focus (intro w hSw; (try dsimp only at hSw); go_simp; (try with_reducible rfl); done)) | refine tns (i := 3) hLst hHeld ?_
        try simp only [Act.put, List.setIfInBounds_toArray, List.set_cons_zero, List.set_cons_succ]
        first | (refine tws (i := 4) (v := ?_) hLst ?_ hHeld ?_; rotate_left; focus (intro w hSw; (try dsimp only at hSw); go_simp; (try with_reducible rfl); done)) | refine tns (i := 4) hLst hHeld ?_
        try simp only [Act.put, List.setIfInBounds_toArray, List.set_cons_zero, List.set_cons_succ]
        first | (refine tws (i := 5) (v := ?_) hLst ?_ hHeld ?_; rotate_left; focus (intro w hSw; (try dsimp only at hSw); go_simp; (try with_reducible rfl); done)) | refine tns (i := 5) hLst hHeld ?_
        try simp only [Act.put, List.setIfInBounds_toArray, List.set_cons_zero, List.set_cons_succ]
        first | (refine tws (i := 6) (v := ?_) hLst ?_ hHeld ?_; rotate_left; focus (intro w hSw; (try dsimp only at hSw); go_simp; (try with_reducible rfl); done)) | refine tns (i := 6) hLst hHeld ?_
        try simp only [Act.put, List.setIfInBounds_toArray, List.set_cons_zero, List.set_cons_succ]
        first | (refine tws (i := 7) (v := ?_) hLst ?_ hHeld ?_; rotate_left; focus (intro w hSw; (try dsimp only at hSw); go_simp; (try with_reducible rfl); done)) | refine tns (i := 7) hLst hHeld ?_
        try simp only [Act.put, List.setIfInBounds_toArray, List.set_cons_zero, List.set_cons_succ]
        first | (refine tws (i := 8) (v := ?_) hLst ?_ hHeld ?_; rotate_left; focus (intro w hSw; (try dsimp only at hSw); go_simp; (try with_reducible rfl); done)) | refine tns (i := 8) hLst hHeld ?_
        try simp only [Act.put, List.setIfInBounds_toArray, List.set_cons_zero, List.set_cons_succ]
        first | (refine tws (i := 9) (v := ?_) hLst ?_ hHeld ?_; rotate_left; focus (intro w hSw; (try dsimp only at hSw); go_simp; (try with_reducible rfl); done)) | refine tns (i := 9) hLst hHeld ?_
        try simp only [Act.put, List.setIfInBounds_toArray, List.set_cons_zero, List.set_cons_succ]
        first | (refine tws (i := 10) (v := ?_) hLst ?_ hHeld ?_; rotate_left; focus (intro w hSw; (try dsimp only at hSw); go_simp; (try with_reducible rfl); done)) | refine tns (i := 10) hLst hHeld ?_
        try simp only [Act.put, List.setIfInBounds_toArray, List.set_cons_zero, List.set_cons_succ]
        first | (refine tws (i := 11) (v := ?_) hLst ?_ hHeld ?_; rotate_left; focus (intro w hSw; (try dsimp only at hSw); go_simp; (try with_reducible rfl); done)) | refine tns (i := 11) hLst hHeld ?_
        try simp only [Act.put, List.setIfInBounds_toArray, List.set_cons_zero, List.set_cons_succ]
        first | (refine tws (i := 12) (v := ?_) hLst ?_ hHeld ?_; rotate_left; focus (intro w hSw; (try dsimp only at hSw); go_simp; (try with_reducible rfl); done)) | refine tns (i := 12) hLst hHeld ?_
        try simp only [Act.put, List.setIfInBounds_toArray, List.set_cons_zero, List.set_cons_succ]
        first | (refine tws (i := 13) (v := ?_) hLst ?_ hHeld ?_; rotate_left; focus (intro w hSw; (try dsimp only at hSw); go_simp; (try with_reducible rfl); done)) | refine tns (i := 13) hLst hHeld ?_
        try simp only [Act.put, List.setIfInBounds_toArray, List.set_cons_zero, List.set_cons_succ]
        first | (refine tws (i := 14) (v := ?_) hLst ?_ hHeld ?_; rotate_left; focus (intro w hSw; (try dsimp only at hSw); go_simp; (try with_reducible rfl); done)) | refine tns (i := 14) hLst hHeld ?_
        try simp only [Act.put, List.setIfInBounds_toArray, List.set_cons_zero, List.set_cons_succ]
        first | (refine tws (i := 15) (v := ?_) hLst ?_ hHeld ?_; rotate_left; focus (intro w hSw; (try dsimp only at hSw); go_simp; (try with_reducible rfl); done)) | refine tns (i := 15) hLst hHeld ?_
        try simp only [Act.put, List.setIfInBounds_toArray, List.set_cons_zero, List.set_cons_succ]
        first | (refine tws (i := 16) (v := ?_) hLst ?_ hHeld ?_; rotate_left; focus (intro w hSw; (try dsimp only at hSw); go_simp; (try with_reducible rfl); done)) | refine tns (i := 16) hLst hHeld ?_
        try simp only [Act.put, List.setIfInBounds_toArray, List.set_cons_zero, List.set_cons_succ]
        first | (refine tws (i := 17) (v := ?_) hLst ?_ hHeld ?_; rotate_left; focus (intro w hSw; (try dsimp only at hSw); go_simp; (try with_reducible rfl); done)) | refine tns (i := 17) hLst hHeld ?_
        try simp only [Act.put, List.setIfInBounds_toArray, List.set_cons_zero, List.set_cons_succ]
        first | (refine tws (i := 18) (v := ?_) hLst ?_ hHeld ?_; rotate_left; focus (intro w hSw; (try dsimp only at hSw); go_simp; (try with_reducible rfl); done)) | refine tns (i := 18) hLst hHeld ?_
        try simp only [Act.put, List.setIfInBounds_toArray, List.set_cons_zero, List.set_cons_succ]
        first | (refine tws (i := 19) (v := ?_) hLst ?_ hHeld ?_; rotate_left; focus (intro w hSw; (try dsimp only at hSw); go_simp; (try with_reducible rfl); done)) | refine tns (i := 19) hLst hHeld ?_
        try simp only [Act.put, List.setIfInBounds_toArray, List.set_cons_zero, List.set_cons_succ]
        first | (refine tws (i := 20) (v := ?_) hLst ?_ hHeld ?_; rotate_left; focus (intro w hSw; (try dsimp only at hSw); go_simp; (try with_reducible rfl); done)) | refine tns (i := 20) hLst hHeld ?_
        try simp only [Act.put, List.setIfInBounds_toArray, List.set_cons_zero, List.set_cons_succ]
        refine call_nexts (i := 21) (by kernel_rfl) (by rfl) ?_
        intro o ho K hK
        simp only [List.getElem?_toArray, List.getElem?_cons_succ, List.getElem?_cons_zero, Option.some.injEq] at ho
        subst ho
        first | (fail; refine hK.out _ _ ?_ (fun hHeld => ?_)) | (go_simp; first | (with_reducible refine hK.out _ _ ?_ (fun hHeld => ?_)) | (fail; refine hK.out _ _ ?_ (fun hHeld => ?_)))
        · first | exact hM0 | exact hM3.out | exact hM5 | exact hM6.out
        clear hK K
        try simp only [Act.put, List.setIfInBounds_toArray, List.set_cons_zero, List.set_cons_succ]
        first | (refine tws (i := 22) (v := ?_) hLst ?_ hHeld ?_; rotate_left; focus (intro w hSw; (try dsimp only at hSw); go_simp; (try with_reducible rfl); done)) | refine tns (i := 22) hLst hHeld ?_
        try simp only [Act.put, List.setIfInBounds_toArray, List.set_cons_zero, List.set_cons_succ]
        refine call_nexts (i := 23) (by kernel_rfl) (by rfl) ?_
        intro o ho K hK
        simp only [List.getElem?_toArray, List.getElem?_cons_succ, List.getElem?_cons_zero, Option.some.injEq] at ho
        subst ho
        first | (fail; refine hK.out _ _ ?_ (fun hHeld => ?_)) | (go_simp; first | (with_reducible refine hK.out _ _ ?_ (fun hHeld => ?_)) | (fail; refine hK.out _ _ ?_ (fun hHeld => ?_)))
        · first | exact hM0 | exact hM3.out | exact hM5 | exact hM6.out
        clear hK K
        try simp only [Act.put, List.setIfInBounds_toArray, List.set_cons_zero, List.set_cons_succ]
        refine call_last (by kernel_rfl) (by kernel_rfl) (by rfl) ?_
        intro o ho K hK
        simp only [List.getElem?_toArray, List.getElem?_cons_succ, List.getElem?_cons_zero, Option.some.injEq] at ho
        subst ho
        first | (fail; refine hK.out _ _ ?_) | (go_simp; first | (with_reducible refine hK.out _ _ ?_) | (fail; refine hK.out _ _ ?_))
        clear hK K
        try simp only [Act.put, List.setIfInBounds_toArray, List.set_cons_zero, List.set_cons_succ]
        have hRF := V2.below (hR6.out.put nA nB) (bdrw _)
        have hbF := bt ((hb6.out.setCell (p := ⟨w.heap.size, 0, none⟩) (Nat.le_refl _) (.int .i64 nA)).setCell (p := ⟨w.heap.size, 1, none⟩) (Nat.le_refl _) (.int .i64 nB)) (bdrw _)
        have r0 := hRF.c0
        have r1 := hRF.c1
        clear hRF
        replace hbF := Lib.hid hbF
        clear hR6 hb6 hM3 hR2 hb2 q0 q1 f0 f1 hM0
        generalize ((W6.setCell ⟨w.heap.size, 0, none⟩ (.int .i64 nA)).setCell ⟨w.heap.size, 1, none⟩ (.int .i64 nB)).drew = WF at *
        go_wp2
        refine bodyPost_ret (v := .tuple #[.agg #[.int .i64 nA, .int .i64 nB], .bool false]) (by simp [results, Tryd.results25, go_sem, r0, r1]) rfl ?_
        exact hE.out _ _ rfl hbF.out
    · have hz : (eA == 0) = false := by simpa using k1
      replace hV : ok = false := hV.trans (by simp [k1])
      subst hV
      clear hRi k1
      replace hE := Lib.hid hE
      go_enter Tryd.func25, Tryd.ntmps25
      go_wp2_with (first | (go_at_call 43; (with_reducible refine (hCut.out _ hm1.out).mono ?_); rintro e1 w1 ⟨rfl, ⟨n, rfl⟩⟩; have hR2 := Lib.hid (hR1.out.below (bdraws0 _ n)); have hb2 := Lib.hid (bdraws hb1.out n)) | (go_at_call 24; (with_reducible refine (hRa.out _).mono ?_); rintro e2 w2 ⟨rfl, rfl⟩) | (go_at_call 24; (with_reducible refine (hRb.out _).mono ?_); rintro e3 w3 ⟨rfl, rfl⟩) | (go_at_call 44; (with_reducible refine (hUn.out _).mono ?_); rintro e4 w4 ⟨rfl, hA⟩; replace hR2 := Lib.hid (hR2.out.below hA); replace hb2 := Lib.hid (bt hb2.out hA); clear hA; have q0 := hR2.out.c0; have q1 := hR2.out.c1; have f0 := hR2.out.free 0; have f1 := hR2.out.free 1))
      clear q0 q1 f0 f1
      replace hR2 := Lib.hid (hR2.out.put nA nB)
      replace hb2 := Lib.hid ((hb2.out.setCell (p := ⟨w.heap.size, 0, none⟩) (Nat.le_refl _) (.int .i64 nA)).setCell (p := ⟨w.heap.size, 1, none⟩) (Nat.le_refl _) (.int .i64 nB))
      generalize (w4.setCell ⟨w.heap.size, 0, none⟩ (.int .i64 nA)).setCell ⟨w.heap.size, 1, none⟩ (.int .i64 nB) = W6 at *
      have q0 := hR2.out.c0
      have q1 := hR2.out.c1
      have f0 := hR2.out.free 0
      have f1 := hR2.out.free 1
      have hR6 := hR2
      have hb6 := hb2
      replace hR2 := Lib.hid (hR2.out.below (bdrw _))
      replace hb2 := Lib.hid (bt hb2.out (bdrw _))
      have hM0 := And.intro hR2.out.c0 hR2.out.c1
      have hM3 := And.intro (hR2.out.put nA nB).c0 (hR2.out.put nA nB).c1
      replace hM3 := Lib.hid hM3
      refine wp_region_drewS (S := (fun w' : World => w'.cell? ⟨w.heap.size, 0, none⟩ = some (.int .i64 nA) ∧ w'.cell? ⟨w.heap.size, 1, none⟩ = some (.int .i64 nB))) 24 (by kernel_rfl) (by kernel_rfl) ?_ (fun hLst hHeld => ?_)
      · first | exact hM0 | exact hM3.out | exact hM5 | exact hM6.out
      first | (refine tws (i := 0) (v := ?_) hLst ?_ hHeld ?_; rotate_left; focus (intro w hSw; (try dsimp only at hSw); go_simp; (try with_reducible rfl); done)) | refine tns (i := 0) hLst hHeld ?_
      try simp only [Act.put, List.setIfInBounds_toArray, List.set_cons_zero, List.set_cons_succ]
      first | (refine tws (i := 1) (v := ?_) hLst ?_ hHeld ?_; rotate_left; focus (intro w hSw; (try dsimp only at hSw); go_simp; (try with_reducible rfl); done)) | refine tns (i := 1) hLst hHeld ?_
      try simp only [Act.put, List.setIfInBounds_toArray, List.set_cons_zero, List.set_cons_succ]
      first | (refine tws (i := 2) (v := ?_) hLst ?_ hHeld ?_; rotate_left; focus (intro w hSw; (try dsimp only at hSw); go_simp; (try with_reducible rfl); done)) | refine tns (i := 2) hLst hHeld ?_
      try simp only [Act.put, List.setIfInBounds_toArray, List.set_cons_zero, List.set_cons_succ]
      first | (refine tws (i := 3) (v := ?_) hLst ?_ hHeld ?_; rotate_left; focus (intro w hSw; (try dsimp only at hSw); go_simp; (try with_reducible rfl); done)) | refine tns (i := 3) hLst hHeld ?_
      try simp only [Act.put, List.setIfInBounds_toArray, List.set_cons_zero, List.set_cons_succ]
      first | (refine tws (i := 4) (v := ?_) hLst ?_ hHeld ?_; rotate_left; focus (intro w hSw; (try dsimp only at hSw); go_simp; (try with_reducible rfl); done)) | refine tns (i := 4) hLst hHeld ?_
      try simp only [Act.put, List.setIfInBounds_toArray, List.set_cons_zero, List.set_cons_succ]
      first | (refine tws (i := 5) (v := ?_) hLst ?_ hHeld ?_; rotate_left; focus (intro w hSw; (try dsimp only at hSw); go_simp; (try with_reducible rfl); done)) | refine tns (i := 5) hLst hHeld ?_
      try simp only [Act.put, List.setIfInBounds_toArray, List.set_cons_zero, List.set_cons_succ]
      first | (refine tws (i := 6) (v := ?_) hLst ?_ hHeld ?_; rotate_left; focus (intro w hSw; (try dsimp only at hSw); go_simp; (try with_reducible rfl); done)) | refine tns (i := 6) hLst hHeld ?_
      try simp only [Act.put, List.setIfInBounds_toArray, List.set_cons_zero, List.set_cons_succ]
      first | (refine tws (i := 7) (v := ?_) hLst ?_ hHeld ?_; rotate_left; focus (intro w hSw; (try dsimp only at hSw); go_simp; (try with_reducible rfl); done)) | refine tns (i := 7) hLst hHeld ?_
      try simp only [Act.put, List.setIfInBounds_toArray, List.set_cons_zero, List.set_cons_succ]
      first | (refine tws (i := 8) (v := ?_) hLst ?_ hHeld ?_; rotate_left; focus (intro w hSw; (try dsimp only at hSw); go_simp; (try with_reducible rfl); done)) | refine tns (i := 8) hLst hHeld ?_
      try simp only [Act.put, List.setIfInBounds_toArray, List.set_cons_zero, List.set_cons_succ]
      first | (refine tws (i := 9) (v := ?_) hLst ?_ hHeld ?_; rotate_left; focus (intro w hSw; (try dsimp only at hSw); go_simp; (try with_reducible rfl); done)) | refine tns (i := 9) hLst hHeld ?_
      try simp only [Act.put, List.setIfInBounds_toArray, List.set_cons_zero, List.set_cons_succ]
      first | (refine tws (i := 10) (v := ?_) hLst ?_ hHeld ?_; rotate_left; focus (intro w hSw; (try dsimp only at hSw); go_simp; (try with_reducible rfl); done)) | refine tns (i := 10) hLst hHeld ?_
      try simp only [Act.put, List.setIfInBounds_toArray, List.set_cons_zero, List.set_cons_succ]
      first | (refine tws (i := 11) (v := ?_) hLst ?_ hHeld ?_; rotate_left; focus (intro w hSw; (try dsimp only at hSw); go_simp; (try with_reducible rfl); done)) | refine tns (i := 11) hLst hHeld ?_
      try simp only [Act.put, List.setIfInBounds_toArray, List.set_cons_zero, List.set_cons_succ]
      first | (refine tws (i := 12) (v := ?_) hLst ?_ hHeld ?_; rotate_left; focus (intro w hSw; (try dsimp only at hSw); go_simp; (try with_reducible rfl); done)) | refine tns (i := 12) hLst hHeld ?_
      try simp only [Act.put, List.setIfInBounds_toArray, List.set_cons_zero, List.set_cons_succ]
      first | (refine tws (i := 13) (v := ?_) hLst ?_ hHeld ?_; rotate_left; focus (intro w hSw; (try dsimp only at hSw); go_simp; (try with_reducible rfl); done)) | refine tns (i := 13) hLst hHeld ?_
      try simp only [Act.put, List.setIfInBounds_toArray, List.set_cons_zero, List.set_cons_succ]
      first | (refine tws (i := 14) (v := ?_) hLst ?_ hHeld ?_; rotate_left; focus (intro w hSw; (try dsimp only at hSw); go_simp; (try with_reducible rfl); done)) | refine tns (i := 14) hLst hHeld ?_
      try simp only [Act.put, List.setIfInBounds_toArray, List.set_cons_zero, List.set_cons_succ]
      first | (refine tws (i := 15) (v := ?_) hLst ?_ hHeld ?_; rotate_left; focus (intro w hSw; (try dsimp only at hSw); go_simp; (try with_reducible rfl); done)) | refine tns (i := 15) hLst hHeld ?_
      try simp only [Act.put, List.setIfInBounds_toArray, List.set_cons_zero, List.set_cons_succ]
      first | (refine tws (i := 16) (v := ?_) hLst ?_ hHeld ?_; rotate_left; focus (intro w hSw; (try dsimp only at hSw); go_simp; (try with_reducible rfl); done)) | refine tns (i := 16) hLst hHeld ?_
      try simp only [Act.put, List.setIfInBounds_toArray, List.set_cons_zero, List.set_cons_succ]
      first | (refine tws (i := 17) (v := ?_) hLst ?_ hHeld ?_; rotate_left; focus (intro w hSw; (try dsimp only at hSw); go_simp; (try with_reducible rfl); done)) | refine tns (i := 17) hLst hHeld ?_
      try simp only [Act.put, List.setIfInBounds_toArray, List.set_cons_zero, List.set_cons_succ]
      first | (refine tws (i := 18) (v := ?_) hLst ?_ hHeld ?_; rotate_left; focus (intro w hSw; (try dsimp only at hSw); go_simp; (try with_reducible rfl); done)) | refine tns (i := 18) hLst hHeld ?_
      try simp only [Act.put, List.setIfInBounds_toArray, List.set_cons_zero, List.set_cons_succ]
      first | (refine tws (i := 19) (v := ?_) hLst ?_ hHeld ?_; rotate_left; focus (intro w hSw; (try dsimp only at hSw); go_simp; (try with_reducible rfl); done)) | refine tns (i := 19) hLst hHeld ?_
      try simp only [Act.put, List.setIfInBounds_toArray, List.set_cons_zero, List.set_cons_succ]
      first | (refine tws (i := 20) (v := ?_) hLst ?_ hHeld ?_; rotate_left; focus (intro w hSw; (try dsimp only at hSw); go_simp; (try with_reducible rfl); done)) | refine tns (i := 20) hLst hHeld ?_
      try simp only [Act.put, List.setIfInBounds_toArray, List.set_cons_zero, List.set_cons_succ]
      refine call_nexts (i := 21) (by kernel_rfl) (by rfl) ?_
      intro o ho K hK
      simp only [List.getElem?_toArray, List.getElem?_cons_succ, List.getElem?_cons_zero, Option.some.injEq] at ho
      subst ho
      first | (fail; refine hK.out _ _ ?_ (fun hHeld => ?_)) | (go_simp; first | (with_reducible refine hK.out _ _ ?_ (fun hHeld => ?_)) | (fail; refine hK.out _ _ ?_ (fun hHeld => ?_)))
      · first | exact hM0 | exact hM3.out | exact hM5 | exact hM6.out
      clear hK K
      try simp only [Act.put, List.setIfInBounds_toArray, List.set_cons_zero, List.set_cons_succ]
      first | (refine tws (i := 22) (v := ?_) hLst ?_ hHeld ?_; rotate_left; focus (intro w hSw; (try dsimp only at hSw); go_simp; (try with_reducible rfl); done)) | refine tns (i := 22) hLst hHeld ?_
      try simp only [Act.put, List.setIfInBounds_toArray, List.set_cons_zero, List.set_cons_succ]
      refine call_nexts (i := 23) (by kernel_rfl) (by rfl) ?_
      intro o ho K hK
      simp only [List.getElem?_toArray, List.getElem?_cons_succ, List.getElem?_cons_zero, Option.some.injEq] at ho
      subst ho
      first | (fail; refine hK.out _ _ ?_ (fun hHeld => ?_)) | (go_simp; first | (with_reducible refine hK.out _ _ ?_ (fun hHeld => ?_)) | (fail; refine hK.out _ _ ?_ (fun hHeld => ?_)))
      · first | exact hM0 | exact hM3.out | exact hM5 | exact hM6.out
      clear hK K
      try simp only [Act.put, List.setIfInBounds_toArray, List.set_cons_zero, List.set_cons_succ]
      refine call_last (by kernel_rfl) (by kernel_rfl) (by rfl) ?_
      intro o ho K hK
      simp only [List.getElem?_toArray, List.getElem?_cons_succ, List.getElem?_cons_zero, Option.some.injEq] at ho
      subst ho
      first | (fail; refine hK.out _ _ ?_) | (go_simp; first | (with_reducible refine hK.out _ _ ?_) | (fail; refine hK.out _ _ ?_))
      clear hK K
      try simp only [Act.put, List.setIfInBounds_toArray, List.set_cons_zero, List.set_cons_succ]
      have hRF := V2.below (hR6.out.put nA nB) (bdrw _)
      have hbF := bt ((hb6.out.setCell (p := ⟨w.heap.size, 0, none⟩) (Nat.le_refl _) (.int .i64 nA)).setCell (p := ⟨w.heap.size, 1, none⟩) (Nat.le_refl _) (.int .i64 nB)) (bdrw _)
      have r0 := hRF.c0
      have r1 := hRF.c1
      clear hRF
      replace hbF := Lib.hid hbF
      clear hR6 hb6 hM3 hR2 hb2 q0 q1 f0 f1 hM0
      generalize ((W6.setCell ⟨w.heap.size, 0, none⟩ (.int .i64 nA)).setCell ⟨w.heap.size, 1, none⟩ (.int .i64 nB)).drew = WF at *
      go_wp2
      refine bodyPost_ret (v := .tuple #[.agg #[.int .i64 nA, .int .i64 nB], .bool false]) (by simp [results, Tryd.results25, go_sem, r0, r1]) rfl ?_
      exact hE.out _ _ rfl hbF.out
end Go.Proofs.YtaddbljdheafaaaDoor
