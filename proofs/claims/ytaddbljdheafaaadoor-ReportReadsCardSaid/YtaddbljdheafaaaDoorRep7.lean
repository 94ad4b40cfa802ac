/-
  What words tell of a conflict (chapter 34): the program's Read.
-/
import Derived.Test.YtaddbljdheafaaaDoorRep6
import Derived.Deep.Cut
import Derived.RegionTactic
import Derived.ChangeAlike
import Derived.Deep.CutRange
namespace Go.Proofs.YtaddbljdheafaaaDoor
open Go.RowKit
set_option linter.unusedVariables false
set_option linter.unusedSimpArgs false
set_option maxRecDepth 20000

def noB : ByteArray := ⟨#[]⟩
def goodR (ws : List ByteArray) : Bool := decide (ws.length = 8) && decide (ws.getD 0 noB = clashS) && decide (ws.getD 2 noB = aS) && decide (ws.getD 5 noB = bS) && decide (readE (ws.getD 1 noB) = 0) && decide (0 ≤ readV (ws.getD 1 noB)) && okV (ws.getD 3 noB) (ws.getD 4 noB) && okV (ws.getD 6 noB) (ws.getD 7 noB)
def goodV (ws : List ByteArray) : Value := .tuple #[.int .i64 (readV (ws.getD 1 noB)), VV (readV (cA (ws.getD 3 noB))) (readV (cB (ws.getD 3 noB))), VV (readV (cA (ws.getD 6 noB))) (readV (cB (ws.getD 6 noB))), .int .i64 0]
def badV : Value := .tuple #[.int .i64 0, VV 0 0, VV 0 0, .int .i64 4]
def rdV (ws : List ByteArray) : Value := if goodR ws then goodV ws else badV
structure RZ (w wx : World) (K : Nat) (ws : List ByteArray) : Prop where
  z3 : V2 wx w.heap.size 0 0
  z4 : V2 wx (w.heap.size + 1) 0 0
  z6 : V2 wx (w.heap.size + 2) 0 0
  cw : ∀ j x, ws[j]? = some x → wx.cell? ⟨K, j, none⟩ = some (.string x)
  bel : Below w.heap.size w wx
  ml : ML wx
theorem RZ.below {w wx wy : World} {K : Nat} {ws : List ByteArray} (h : RZ w wx K ws) (hb : Below wx.heap.size wx wy) : RZ w wy K ws :=
  ⟨h.z3.below hb, h.z4.below hb, h.z6.below hb, fun j x hx => bkeep hb (h.cw j x hx), bt h.bel hb, h.ml.below hb⟩
/-- the world behind the results' stores -/
def outW (W : World) (B : Nat) (a b c d : Int) : World := (((W.setCell ⟨B, 0, none⟩ (.int .i64 a)).setCell ⟨B, 1, none⟩ (.int .i64 b)).setCell ⟨B + 1, 0, none⟩ (.int .i64 c)).setCell ⟨B + 1, 1, none⟩ (.int .i64 d)
theorem V2.other {W : World} {K J : Nat} {a b : Int} (h : V2 W K a b) (hne : K ≠ J) (x y : Int) : V2 ((W.setCell ⟨J, 0, none⟩ (.int .i64 x)).setCell ⟨J, 1, none⟩ (.int .i64 y)) K a b := by
  unfold V2
  rw [heap_setCell_other _ ⟨J, 1, none⟩ K _ hne, heap_setCell_other _ ⟨J, 0, none⟩ K _ hne]
  exact h
theorem RZ.out {w wx : World} {K : Nat} {ws : List ByteArray} (h : RZ w wx K ws) (a b c d : Int) : V2 (outW wx w.heap.size a b c d) w.heap.size a b ∧ V2 (outW wx w.heap.size a b c d) (w.heap.size + 1) c d ∧ Below w.heap.size w (outW wx w.heap.size a b c d) :=
  ⟨(h.z3.put a b).other (by omega) c d, (h.z4.other (by omega) a b).put c d,
    (((h.bel.setCell (p := ⟨w.heap.size, 0, none⟩) (Nat.le_refl _) _).setCell (p := ⟨w.heap.size, 1, none⟩) (Nat.le_refl _) _).setCell (p := ⟨w.heap.size + 1, 0, none⟩) (Nat.le_succ _) _).setCell (p := ⟨w.heap.size + 1, 1, none⟩) (Nat.le_succ _) _⟩
theorem RZ.put {w wx : World} {K : Nat} {ws : List ByteArray} (h : RZ w wx K ws) {J : Nat} (hJ : w.heap.size + 2 < J) (hK : K ≠ J) (a b : Int) : RZ w ((wx.setCell ⟨J, 0, none⟩ (.int .i64 a)).setCell ⟨J, 1, none⟩ (.int .i64 b)) K ws := by
  refine ⟨h.z3.other (by omega) a b, h.z4.other (by omega) a b, h.z6.other (by omega) a b, fun j x hx => cell_set_ne (cell_set_ne (h.cw j x hx) hK) hK, (h.bel.setCell (p := ⟨J, 0, none⟩) (by show w.heap.size ≤ J; omega) _).setCell (p := ⟨J, 1, none⟩) (by show w.heap.size ≤ J; omega) _, ?_⟩
  obtain ⟨m, hm⟩ := h.ml
  exact ⟨m, cell_set_ne (cell_set_ne hm (by show (0 : Nat) ≠ J; omega)) (by show (0 : Nat) ≠ J; omega)⟩
theorem RZ.lt {w wx : World} {K : Nat} {ws : List ByteArray} (h : RZ w wx K ws) (h0 : ws ≠ []) : w.heap.size + 2 < wx.heap.size ∧ K < wx.heap.size := by
  refine ⟨(Array.getElem?_eq_some_iff.1 h.z6).1, ?_⟩
  obtain ⟨x, hx⟩ : ∃ x, ws[0]? = some x := ⟨_, List.getElem?_eq_getElem (List.length_pos_iff.2 h0)⟩
  exact World.block_lt_of_cell? _ _ (h.cw 0 x hx)
theorem V2.lt {W : World} {K : Nat} {a b : Int} (h : V2 W K a b) : K < W.heap.size := (Array.getElem?_eq_some_iff.1 h).1
theorem split_any (s : ByteArray) (w : World) (hs : s.size ≤ 100000) (hm : ML w) :
    Calls Tryd.prog 23 #[.string s, .string ⟨#[32]⟩] w fun e w' => e = .returned (.slice (some ⟨w.heap.size, 0, none⟩) (cuts s).length (cuts s).length) ∧ (∀ j x, (cuts s)[j]? = some x → w'.cell? ⟨w.heap.size, j, none⟩ = some (.string x)) ∧ Below w.heap.size w w' := by
  obtain ⟨m, hm⟩ := hm
  have hS := Tryd.strings_Split s spB m w (by omega) hm (by decide)
  rw [split_eq, countB_len] at hS
  refine hS.mono ?_
  rintro e w' ⟨h1, rfl⟩
  refine ⟨h1, fun j x hx => ?_, alb w _⟩
  obtain ⟨h2, h3⟩ := List.getElem?_eq_some_iff.1 hx
  subst h3
  simp [go_sem, h2]
theorem cuts_size (s : ByteArray) : ∀ x ∈ cuts s, x.size ≤ s.size := by
  have key : ∀ s : List UInt8, ∀ x ∈ cutsL s, x.length ≤ s.length := by
    refine cuts_ind ?_ ?_
    · intro x hx y hy
      rw [cutsL_no hx] at hy
      simp at hy
      subst hy; exact Nat.le_refl _
    · intro x t hx ih y hy
      rw [cutsL_yes t hx] at hy
      rw [List.length_append, List.length_cons]
      rcases List.mem_cons.1 hy with rfl | hy
      · omega
      · have := ih y hy; omega
  intro x hx
  obtain ⟨y, hy, rfl⟩ := List.mem_map.1 hx
  exact key _ y hy
def RE (ws : List ByteArray) (w : World) (e : Ending) (w' : World) : Prop := e = .returned (rdV ws) ∧ Below w.heap.size w w'
theorem lC : clashS.toList = [99, 108, 97, 115, 104] := by decide +kernel
theorem lA : aS.toList = [97] := by decide +kernel
theorem lB : bS.toList = [98] := by decide +kernel
theorem len8 {l : List ByteArray} (h : l.length = 8) : ∃ x0 x1 x2 x3 x4 x5 x6 x7, l = [x0, x1, x2, x3, x4, x5, x6, x7] := by
  match l, h with
  | [x0, x1, x2, x3, x4, x5, x6, x7], _ => exact ⟨x0, x1, x2, x3, x4, x5, x6, x7, rfl⟩
set_option maxHeartbeats 3200000 in
theorem read_conf (s : ByteArray) (w : World) (hs : s.size ≤ 4000) (hm : ML w) : Calls Tryd.prog 8 #[.string s] w (RE (cuts s) w) := by
  have hE : ∀ W v, v = rdV (cuts s) → Below w.heap.size w W → RE (cuts s) w (.returned v) W := by
    rintro W v rfl h
    exact ⟨rfl, h⟩
  have hSp := fun W (h : ML W) => split_any s W (by omega) h
  have hsz := cuts_size s
  have hV : rdV (cuts s) = if goodR (cuts s) then goodV (cuts s) else badV := rfl
  have hG : goodR (cuts s) = (decide ((cuts s).length = 8) && decide ((cuts s).getD 0 noB = clashS) && decide ((cuts s).getD 2 noB = aS) && decide ((cuts s).getD 5 noB = bS) && decide (readE ((cuts s).getD 1 noB) = 0) && decide (0 ≤ readV ((cuts s).getD 1 noB)) && okV ((cuts s).getD 3 noB) ((cuts s).getD 4 noB) && okV ((cuts s).getD 6 noB) ((cuts s).getD 7 noB)) := rfl
  have hW : goodV (cuts s) = .tuple #[.int .i64 (readV ((cuts s).getD 1 noB)), VV (readV (cA ((cuts s).getD 3 noB))) (readV (cB ((cuts s).getD 3 noB))), VV (readV (cA ((cuts s).getD 6 noB))) (readV (cB ((cuts s).getD 6 noB))), .int .i64 0] := rfl
  generalize RE (cuts s) w = Pst at *
  generalize rdV (cuts s) = res at *
  generalize goodR (cuts s) = good at *
  generalize goodV (cuts s) = gv at *
  generalize cuts s = ws at *
  replace hE := Lib.hid hE
  have hZ0 : Hid (∀ o, o = Obj.cells #[.int .i64 0, .int .i64 0] 23 → ML (((w.alloc o).alloc o).alloc o) ∧ Below w.heap.size w (((w.alloc o).alloc o).alloc o) ∧ V2 (((w.alloc o).alloc o).alloc o) w.heap.size 0 0 ∧ V2 (((w.alloc o).alloc o).alloc o) (w.heap.size + 1) 0 0 ∧ V2 (((w.alloc o).alloc o).alloc o) (w.heap.size + 2) 0 0) := by
    rintro o rfl
    have b1 := alb w (.cells #[.int .i64 0, .int .i64 0] 23)
    have b2 := alb (w.alloc (.cells #[.int .i64 0, .int .i64 0] 23)) (.cells #[.int .i64 0, .int .i64 0] 23)
    have b3 := alb ((w.alloc (.cells #[.int .i64 0, .int .i64 0] 23)).alloc (.cells #[.int .i64 0, .int .i64 0] 23)) (.cells #[.int .i64 0, .int .i64 0] 23)
    refine ⟨((hm.below b1).below b2).below b3, bt (bt b1 b2) b3, ((V2.new w 0 0).below b2).below b3, ?_, ?_⟩
    · have := (V2.new (w.alloc (.cells #[.int .i64 0, .int .i64 0] 23)) 0 0).below b3
      rwa [show (w.alloc (.cells #[.int .i64 0, .int .i64 0] 23)).heap.size = w.heap.size + 1 by simp] at this
    · have := V2.new ((w.alloc (.cells #[.int .i64 0, .int .i64 0] 23)).alloc (.cells #[.int .i64 0, .int .i64 0] 23)) 0 0
      rwa [show ((w.alloc (.cells #[.int .i64 0, .int .i64 0] 23)).alloc (.cells #[.int .i64 0, .int .i64 0] 23)).heap.size = w.heap.size + 2 by simp] at this
  have hZ1 := hZ0.out _ rfl
  generalize hWW : ((w.alloc (.cells #[.int .i64 0, .int .i64 0] 23)).alloc (.cells #[.int .i64 0, .int .i64 0] 23)).alloc (.cells #[.int .i64 0, .int .i64 0] 23) = W0 at *
  have hSq : Hid (Calls Tryd.prog 23 #[.string s, .string ⟨#[32]⟩] W0 fun e w' => ∃ Kb, e = .returned (.slice (some ⟨Kb, 0, none⟩) ws.length ws.length) ∧ RZ w w' Kb ws) := by
    refine (hSp W0 hZ1.1).mono ?_
    rintro e w' ⟨h1, h2, h3⟩
    exact ⟨_, h1, hZ1.2.2.1.below h3, hZ1.2.2.2.1.below h3, hZ1.2.2.2.2.below h3, h2, bt hZ1.2.1 h3, hZ1.1.below h3⟩
  clear hSp hZ0 hZ1 hm
  by_cases h8 : ws.length = 8
  · obtain ⟨x0, x1, x2, x3, x4, x5, x6, x7, rfl⟩ := len8 h8
    have s1 := hsz x1 (by simp)
    have s3 := hsz x3 (by simp)
    have s4 := hsz x4 (by simp)
    have s6 := hsz x6 (by simp)
    have s7 := hsz x7 (by simp)
    have hRe := fun W => read_any x1 W (by omega)
    have hRd1 := fun W h => vread_any x3 x4 W (by omega) (by omega) h
    have hRd2 := fun W h => vread_any x6 x7 W (by omega) (by omega) h
    simp only [List.getD_cons_zero, List.getD_cons_succ, List.length_cons, List.length_nil] at hG hW
    replace hSq : Hid (Calls Tryd.prog 23 #[.string s, .string ⟨#[32]⟩] W0 fun e w' => ∃ Kb, e = .returned (.slice (some ⟨Kb, 0, none⟩) 8 8) ∧ RZ w w' Kb [x0, x1, x2, x3, x4, x5, x6, x7]) := hSq
    unfold VE at hRd1 hRd2
    generalize readV x1 = v1 at *
    generalize readE x1 = e1 at *
    generalize readV (cA x3) = A1 at *
    generalize readV (cB x3) = B1 at *
    generalize readV (cA x6) = A2 at *
    generalize readV (cB x6) = B2 at *
    generalize okV x3 x4 = ok1 at *
    generalize okV x6 x7 = ok2 at *
    replace hRe := Lib.hid hRe
    replace hRd1 := Lib.hid hRd1
    replace hRd2 := Lib.hid hRd2
    clear hsz h8 s1 s3 s4 s6 s7 hs
    by_cases k0 : x0 = clashS
    · have m0 : (x0.toList == [99, 108, 97, 115, 104]) = true := by rw [k0, lC]; rfl
      have m0' : (x0.toList != [99, 108, 97, 115, 104]) = false := by rw [bne, m0]; rfl
      by_cases k2 : x2 = aS
      · have m2 : (x2.toList == [97]) = true := by rw [k2, lA]; rfl
        have m2' : (x2.toList != [97]) = false := by rw [bne, m2]; rfl
        by_cases k5 : x5 = bS
        · replace hG : good = (decide (e1 = 0) && decide (0 ≤ v1) && ok1 && ok2) := hG.trans (by rw [k0, k2, k5]; simp)
          have m5 : (x5.toList == [98]) = true := by rw [k5, lB]; rfl
          have m5' : (x5.toList != [98]) = false := by rw [bne, m5]; rfl
          clear k0 k2 k5
          replace hW := Lib.hid hW
          go_enter Tryd.func8, Tryd.ntmps8
          go_upto_region 6 with (first | (go_at_call 23; (with_reducible refine hSq.out.mono ?_); rintro e1 w1 ⟨Kb, rfl, hR⟩; replace hR := Lib.hid hR; have c0 := hR.out.cw 0 x0 rfl; have c1 := hR.out.cw 1 x1 rfl; have c2 := hR.out.cw 2 x2 rfl; have c5 := hR.out.cw 5 x5 rfl) | (go_at_call 24; (with_reducible refine (hRe.out _).mono ?_); rintro e2 w2 ⟨rfl, rfl⟩))
          clear c0 c1 c2 c5
          have hD := Lib.hid (hR.out.below (bdrw _))
          have hDa := Lib.hid (hD.out.below (alb _ (.cells #[.int .i64 0, .int .i64 0] 23)))
          have hM0 := And.intro (hD.out.cw 3 x3 rfl) (hD.out.cw 4 x4 rfl)
          have hMa := And.intro (hDa.out.cw 3 x3 rfl) (hDa.out.cw 4 x4 rfl)
          have hlt := Lib.hid (hD.out.lt (by simp))
          have hN0 := Lib.hid (V2.new w1.drew 0 0)
          go_cut [10, 11] from 14 (fun p10 s11 wx => ∃ g : Nat, p10 = .pointer (some ⟨g, 0, none⟩) ∧ s11 = .bool ok1 ∧ Hid (V2 wx g A1 B1) ∧ Hid (RZ w wx Kb [x0, x1, x2, x3, x4, x5, x6, x7]))
          case first =>
            refine wp_region_held_drew (S := (fun w' : World => w'.cell? ⟨Kb, 3, none⟩ = some (.string x3) ∧ w'.cell? ⟨Kb, 4, none⟩ = some (.string x4))) (by kernel_rfl) ?_ (fun hHeld => ?_)
            · first | exact hM0 | exact hM1 | exact hMa | exact hMb | exact ⟨(hR5.out.below (alb _ _)).cw 3 x3 rfl, (hR5.out.below (alb _ _)).cw 4 x4 rfl⟩ | exact ⟨(hR5.out.put hlt.out.1 (Nat.ne_of_lt hlt.out.2) A1 B1).cw 3 x3 rfl, (hR5.out.put hlt.out.1 (Nat.ne_of_lt hlt.out.2) A1 B1).cw 4 x4 rfl⟩
            generalize w1.drew = WD at *
            first | (refine tw (i := 0) (v := ?_) ?_ hHeld ?_; rotate_left; focus (intro w hSw; (try dsimp only at hSw); (try skip); go_simp; (try with_reducible rfl); done)) | refine tn (i := 0) hHeld ?_
            try simp only [Act.put, List.setIfInBounds_toArray, List.set_cons_zero, List.set_cons_succ]
            first | (refine tw (i := 1) (v := ?_) ?_ hHeld ?_; rotate_left; focus (intro w hSw; (try dsimp only at hSw); (try skip); go_simp; (try with_reducible rfl); done)) | refine tn (i := 1) hHeld ?_
            try simp only [Act.put, List.setIfInBounds_toArray, List.set_cons_zero, List.set_cons_succ]
            first | (refine tw (i := 2) (v := ?_) ?_ hHeld ?_; rotate_left; focus (intro w hSw; (try dsimp only at hSw); (try skip); go_simp; (try with_reducible rfl); done)) | refine tn (i := 2) hHeld ?_
            try simp only [Act.put, List.setIfInBounds_toArray, List.set_cons_zero, List.set_cons_succ]
            first | (refine tw (i := 3) (v := ?_) ?_ hHeld ?_; rotate_left; focus (intro w hSw; (try dsimp only at hSw); (try skip); go_simp; (try with_reducible rfl); done)) | refine tn (i := 3) hHeld ?_
            try simp only [Act.put, List.setIfInBounds_toArray, List.set_cons_zero, List.set_cons_succ]
            first | (refine tw (i := 4) (v := ?_) ?_ hHeld ?_; rotate_left; focus (intro w hSw; (try dsimp only at hSw); (try skip); go_simp; (try with_reducible rfl); done)) | refine tn (i := 4) hHeld ?_
            try simp only [Act.put, List.setIfInBounds_toArray, List.set_cons_zero, List.set_cons_succ]
            first | (refine tw (i := 5) (v := ?_) ?_ hHeld ?_; rotate_left; focus (intro w hSw; (try dsimp only at hSw); (try skip); go_simp; (try with_reducible rfl); done)) | refine tn (i := 5) hHeld ?_
            try simp only [Act.put, List.setIfInBounds_toArray, List.set_cons_zero, List.set_cons_succ]
            refine call_next2 (i := 6) (j := 10) (by kernel_rfl) (by rfl) (by rfl) ?_ ?_
            · intro o ho K hK
              simp only [List.getElem?_toArray, List.getElem?_cons_succ, List.getElem?_cons_zero, Option.some.injEq] at ho
              subst ho
              first | (fail; refine hK.out _ _ ?_ (fun hHeld => ?_)) | (go_simp; first | (with_reducible refine hK.out _ _ ?_ (fun hHeld => ?_)) | ((first | (go_at_call 25; (with_reducible refine (hRd1.out _ hD.out.ml).mono ?_); rintro e5 w5 ⟨rfl, hA⟩; have hR5 := Lib.hid (hD.out.below hA); have hM1 := And.intro (hR5.out.cw 3 x3 rfl) (hR5.out.cw 4 x4 rfl); have hMb := hM1; clear hA) | (go_at_call 25; (with_reducible refine (hRd1.out _ hDa.out.ml).mono ?_); rintro e5 w6 ⟨rfl, hA⟩; have hR5 := Lib.hid (hDa.out.below hA); have hM1 := And.intro (hR5.out.cw 3 x3 rfl) (hR5.out.cw 4 x4 rfl); have hMb := hM1; have hN := Lib.hid (hN0.out.below hA); have a0 := hN.out.c0; have a1 := hN.out.c1; have b0 := hN.out.free 0; have b1 := hN.out.free 1; clear hA)); refine hK.out _ _ ?_ (fun hHeld => ?_)))
              · first | exact hM0 | exact hM1 | exact hMa | exact hMb | exact ⟨(hR5.out.below (alb _ _)).cw 3 x3 rfl, (hR5.out.below (alb _ _)).cw 4 x4 rfl⟩ | exact ⟨(hR5.out.put hlt.out.1 (Nat.ne_of_lt hlt.out.2) A1 B1).cw 3 x3 rfl, (hR5.out.put hlt.out.1 (Nat.ne_of_lt hlt.out.2) A1 B1).cw 4 x4 rfl⟩
              clear hK K
              try simp only [Act.put, List.setIfInBounds_toArray, List.set_cons_zero, List.set_cons_succ]
              first | (refine tw (i := 7) (v := ?_) ?_ hHeld ?_; rotate_left; focus (intro w hSw; (try dsimp only at hSw); (try skip); go_simp; (try with_reducible rfl); done)) | refine tn (i := 7) hHeld ?_
              try simp only [Act.put, List.setIfInBounds_toArray, List.set_cons_zero, List.set_cons_succ]
              first | (refine tw (i := 8) (v := ?_) ?_ hHeld ?_; rotate_left; focus (intro w hSw; (try dsimp only at hSw); (try skip); go_simp; (try with_reducible rfl); done)) | refine tn (i := 8) hHeld ?_
              try simp only [Act.put, List.setIfInBounds_toArray, List.set_cons_zero, List.set_cons_succ]
              first | (refine tw (i := 9) (v := ?_) ?_ hHeld ?_; rotate_left; focus (intro w hSw; (try dsimp only at hSw); (try skip); go_simp; (try with_reducible rfl); done)) | refine tn (i := 9) hHeld ?_
              try simp only [Act.put, List.setIfInBounds_toArray, List.set_cons_zero, List.set_cons_succ]
              refine call_next (i := 10) (by kernel_rfl) (by rfl) ?_
              intro o ho K hK
              simp only [List.getElem?_toArray, List.getElem?_cons_succ, List.getElem?_cons_zero, Option.some.injEq] at ho
              subst ho
              first | (fail; refine hK.out _ _ ?_ (fun hHeld => ?_)) | (go_simp; first | (with_reducible refine hK.out _ _ ?_ (fun hHeld => ?_)) | ((first | (go_at_call 25; (with_reducible refine (hRd1.out _ hD.out.ml).mono ?_); rintro e5 w5 ⟨rfl, hA⟩; have hR5 := Lib.hid (hD.out.below hA); have hM1 := And.intro (hR5.out.cw 3 x3 rfl) (hR5.out.cw 4 x4 rfl); have hMb := hM1; clear hA) | (go_at_call 25; (with_reducible refine (hRd1.out _ hDa.out.ml).mono ?_); rintro e5 w6 ⟨rfl, hA⟩; have hR5 := Lib.hid (hDa.out.below hA); have hM1 := And.intro (hR5.out.cw 3 x3 rfl) (hR5.out.cw 4 x4 rfl); have hMb := hM1; have hN := Lib.hid (hN0.out.below hA); have a0 := hN.out.c0; have a1 := hN.out.c1; have b0 := hN.out.free 0; have b1 := hN.out.free 1; clear hA)); refine hK.out _ _ ?_ (fun hHeld => ?_)))
              · first | exact hM0 | exact hM1 | exact hMa | exact hMb | exact ⟨(hR5.out.below (alb _ _)).cw 3 x3 rfl, (hR5.out.below (alb _ _)).cw 4 x4 rfl⟩ | exact ⟨(hR5.out.put hlt.out.1 (Nat.ne_of_lt hlt.out.2) A1 B1).cw 3 x3 rfl, (hR5.out.put hlt.out.1 (Nat.ne_of_lt hlt.out.2) A1 B1).cw 4 x4 rfl⟩
              clear hK K
              try simp only [Act.put, List.setIfInBounds_toArray, List.set_cons_zero, List.set_cons_succ]
              refine call_next (i := 11) (by kernel_rfl) (by rfl) ?_
              intro o ho K hK
              simp only [List.getElem?_toArray, List.getElem?_cons_succ, List.getElem?_cons_zero, Option.some.injEq] at ho
              subst ho
              first | (fail; refine hK.out _ _ ?_ (fun hHeld => ?_)) | (go_simp; first | (with_reducible refine hK.out _ _ ?_ (fun hHeld => ?_)) | ((first | (go_at_call 25; (with_reducible refine (hRd1.out _ hD.out.ml).mono ?_); rintro e5 w5 ⟨rfl, hA⟩; have hR5 := Lib.hid (hD.out.below hA); have hM1 := And.intro (hR5.out.cw 3 x3 rfl) (hR5.out.cw 4 x4 rfl); have hMb := hM1; clear hA) | (go_at_call 25; (with_reducible refine (hRd1.out _ hDa.out.ml).mono ?_); rintro e5 w6 ⟨rfl, hA⟩; have hR5 := Lib.hid (hDa.out.below hA); have hM1 := And.intro (hR5.out.cw 3 x3 rfl) (hR5.out.cw 4 x4 rfl); have hMb := hM1; have hN := Lib.hid (hN0.out.below hA); have a0 := hN.out.c0; have a1 := hN.out.c1; have b0 := hN.out.free 0; have b1 := hN.out.free 1; clear hA)); refine hK.out _ _ ?_ (fun hHeld => ?_)))
              · first | exact hM0 | exact hM1 | exact hMa | exact hMb | exact ⟨(hR5.out.below (alb _ _)).cw 3 x3 rfl, (hR5.out.below (alb _ _)).cw 4 x4 rfl⟩ | exact ⟨(hR5.out.put hlt.out.1 (Nat.ne_of_lt hlt.out.2) A1 B1).cw 3 x3 rfl, (hR5.out.put hlt.out.1 (Nat.ne_of_lt hlt.out.2) A1 B1).cw 4 x4 rfl⟩
              clear hK K
              try simp only [Act.put, List.setIfInBounds_toArray, List.set_cons_zero, List.set_cons_succ]
              first | (refine tw (i := 12) (v := ?_) ?_ hHeld ?_; rotate_left; focus (intro w hSw; (try dsimp only at hSw); (try skip); go_simp; (try with_reducible rfl); done)) | refine tn (i := 12) hHeld ?_
              try simp only [Act.put, List.setIfInBounds_toArray, List.set_cons_zero, List.set_cons_succ]
              refine wpAnyH_done (by kernel_rfl) ?_ _
              go_wp2
              go_meet
              case rel => first | exact ⟨_, rfl, rfl, V2.new _ _ _, hR5.out.below (alb _ _)⟩ | exact ⟨_, rfl, rfl, hN.out.put A1 B1, hR5.out.put hlt.out.1 (Nat.ne_of_lt hlt.out.2) A1 B1⟩
            · intro o ho K hK
              simp only [List.getElem?_toArray, List.getElem?_cons_succ, List.getElem?_cons_zero, Option.some.injEq] at ho
              subst ho
              first | (fail; refine hK.out _ _ ?_ (fun hHeld => ?_)) | (go_simp; first | (with_reducible refine hK.out _ _ ?_ (fun hHeld => ?_)) | ((first | (go_at_call 25; (with_reducible refine (hRd1.out _ hD.out.ml).mono ?_); rintro e5 w5 ⟨rfl, hA⟩; have hR5 := Lib.hid (hD.out.below hA); have hM1 := And.intro (hR5.out.cw 3 x3 rfl) (hR5.out.cw 4 x4 rfl); have hMb := hM1; clear hA) | (go_at_call 25; (with_reducible refine (hRd1.out _ hDa.out.ml).mono ?_); rintro e5 w6 ⟨rfl, hA⟩; have hR5 := Lib.hid (hDa.out.below hA); have hM1 := And.intro (hR5.out.cw 3 x3 rfl) (hR5.out.cw 4 x4 rfl); have hMb := hM1; have hN := Lib.hid (hN0.out.below hA); have a0 := hN.out.c0; have a1 := hN.out.c1; have b0 := hN.out.free 0; have b1 := hN.out.free 1; clear hA)); refine hK.out _ _ ?_ (fun hHeld => ?_)))
              · first | exact hM0 | exact hM1 | exact hMa | exact hMb | exact ⟨(hR5.out.below (alb _ _)).cw 3 x3 rfl, (hR5.out.below (alb _ _)).cw 4 x4 rfl⟩ | exact ⟨(hR5.out.put hlt.out.1 (Nat.ne_of_lt hlt.out.2) A1 B1).cw 3 x3 rfl, (hR5.out.put hlt.out.1 (Nat.ne_of_lt hlt.out.2) A1 B1).cw 4 x4 rfl⟩
              clear hK K
              try simp only [Act.put, List.setIfInBounds_toArray, List.set_cons_zero, List.set_cons_succ]
              refine call_next (i := 6) (by kernel_rfl) (by rfl) ?_
              intro o ho K hK
              simp only [List.getElem?_toArray, List.getElem?_cons_succ, List.getElem?_cons_zero, Option.some.injEq] at ho
              subst ho
              first | (fail; refine hK.out _ _ ?_ (fun hHeld => ?_)) | (go_simp; first | (with_reducible refine hK.out _ _ ?_ (fun hHeld => ?_)) | ((first | (go_at_call 25; (with_reducible refine (hRd1.out _ hD.out.ml).mono ?_); rintro e5 w5 ⟨rfl, hA⟩; have hR5 := Lib.hid (hD.out.below hA); have hM1 := And.intro (hR5.out.cw 3 x3 rfl) (hR5.out.cw 4 x4 rfl); have hMb := hM1; clear hA) | (go_at_call 25; (with_reducible refine (hRd1.out _ hDa.out.ml).mono ?_); rintro e5 w6 ⟨rfl, hA⟩; have hR5 := Lib.hid (hDa.out.below hA); have hM1 := And.intro (hR5.out.cw 3 x3 rfl) (hR5.out.cw 4 x4 rfl); have hMb := hM1; have hN := Lib.hid (hN0.out.below hA); have a0 := hN.out.c0; have a1 := hN.out.c1; have b0 := hN.out.free 0; have b1 := hN.out.free 1; clear hA)); refine hK.out _ _ ?_ (fun hHeld => ?_)))
              · first | exact hM0 | exact hM1 | exact hMa | exact hMb | exact ⟨(hR5.out.below (alb _ _)).cw 3 x3 rfl, (hR5.out.below (alb _ _)).cw 4 x4 rfl⟩ | exact ⟨(hR5.out.put hlt.out.1 (Nat.ne_of_lt hlt.out.2) A1 B1).cw 3 x3 rfl, (hR5.out.put hlt.out.1 (Nat.ne_of_lt hlt.out.2) A1 B1).cw 4 x4 rfl⟩
              clear hK K
              try simp only [Act.put, List.setIfInBounds_toArray, List.set_cons_zero, List.set_cons_succ]
              first | (refine tw (i := 7) (v := ?_) ?_ hHeld ?_; rotate_left; focus (intro w hSw; (try dsimp only at hSw); (try skip); go_simp; (try with_reducible rfl); done)) | refine tn (i := 7) hHeld ?_
              try simp only [Act.put, List.setIfInBounds_toArray, List.set_cons_zero, List.set_cons_succ]
              first | (refine tw (i := 8) (v := ?_) ?_ hHeld ?_; rotate_left; focus (intro w hSw; (try dsimp only at hSw); (try skip); go_simp; (try with_reducible rfl); done)) | refine tn (i := 8) hHeld ?_
              try simp only [Act.put, List.setIfInBounds_toArray, List.set_cons_zero, List.set_cons_succ]
              first | (refine tw (i := 9) (v := ?_) ?_ hHeld ?_; rotate_left; focus (intro w hSw; (try dsimp only at hSw); (try skip); go_simp; (try with_reducible rfl); done)) | refine tn (i := 9) hHeld ?_
              try simp only [Act.put, List.setIfInBounds_toArray, List.set_cons_zero, List.set_cons_succ]
              refine call_next (i := 11) (by kernel_rfl) (by rfl) ?_
              intro o ho K hK
              simp only [List.getElem?_toArray, List.getElem?_cons_succ, List.getElem?_cons_zero, Option.some.injEq] at ho
              subst ho
              first | (fail; refine hK.out _ _ ?_ (fun hHeld => ?_)) | (go_simp; first | (with_reducible refine hK.out _ _ ?_ (fun hHeld => ?_)) | ((first | (go_at_call 25; (with_reducible refine (hRd1.out _ hD.out.ml).mono ?_); rintro e5 w5 ⟨rfl, hA⟩; have hR5 := Lib.hid (hD.out.below hA); have hM1 := And.intro (hR5.out.cw 3 x3 rfl) (hR5.out.cw 4 x4 rfl); have hMb := hM1; clear hA) | (go_at_call 25; (with_reducible refine (hRd1.out _ hDa.out.ml).mono ?_); rintro e5 w6 ⟨rfl, hA⟩; have hR5 := Lib.hid (hDa.out.below hA); have hM1 := And.intro (hR5.out.cw 3 x3 rfl) (hR5.out.cw 4 x4 rfl); have hMb := hM1; have hN := Lib.hid (hN0.out.below hA); have a0 := hN.out.c0; have a1 := hN.out.c1; have b0 := hN.out.free 0; have b1 := hN.out.free 1; clear hA)); refine hK.out _ _ ?_ (fun hHeld => ?_)))
              · first | exact hM0 | exact hM1 | exact hMa | exact hMb | exact ⟨(hR5.out.below (alb _ _)).cw 3 x3 rfl, (hR5.out.below (alb _ _)).cw 4 x4 rfl⟩ | exact ⟨(hR5.out.put hlt.out.1 (Nat.ne_of_lt hlt.out.2) A1 B1).cw 3 x3 rfl, (hR5.out.put hlt.out.1 (Nat.ne_of_lt hlt.out.2) A1 B1).cw 4 x4 rfl⟩
              clear hK K
              try simp only [Act.put, List.setIfInBounds_toArray, List.set_cons_zero, List.set_cons_succ]
              first | (refine tw (i := 12) (v := ?_) ?_ hHeld ?_; rotate_left; focus (intro w hSw; (try dsimp only at hSw); (try skip); go_simp; (try with_reducible rfl); done)) | refine tn (i := 12) hHeld ?_
              try simp only [Act.put, List.setIfInBounds_toArray, List.set_cons_zero, List.set_cons_succ]
              refine wpAnyH_done (by kernel_rfl) ?_ _
              go_wp2
              go_meet
              case rel => first | exact ⟨_, rfl, rfl, V2.new _ _ _, hR5.out.below (alb _ _)⟩ | exact ⟨_, rfl, rfl, hN.out.put A1 B1, hR5.out.put hlt.out.1 (Nat.ne_of_lt hlt.out.2) A1 B1⟩
          case rest =>
            obtain ⟨g1, rfl, rfl, hg1, hR2⟩ := hcut
            clear hD hDa hM0 hMa hlt hN0 hR hRd1
            go_upto_region 7 with fail
            have hD := Lib.hid (hR2.out.below (bdrw _))
            have hgD := Lib.hid (hg1.out.below (bdrw _))
            have hG1 := Lib.hid hgD.out.lt
            have hDa := Lib.hid (hD.out.below (alb _ (.cells #[.int .i64 0, .int .i64 0] 23)))
            have hM0 := And.intro (hD.out.cw 6 x6 rfl) (hD.out.cw 7 x7 rfl)
            have hMa := And.intro (hDa.out.cw 6 x6 rfl) (hDa.out.cw 7 x7 rfl)
            have hlt := Lib.hid (hD.out.lt (by simp))
            have hN0 := Lib.hid (V2.new wc.drew 0 0)
            go_cut [12, 13] from 14 (fun p12 s13 wx => ∃ g : Nat, p12 = .pointer (some ⟨g, 0, none⟩) ∧ s13 = .bool ok2 ∧ Hid (V2 wx g A2 B2) ∧ Hid (w.heap.size + 2 < g) ∧ Hid (V2 wx g1 A1 B1) ∧ Hid (RZ w wx Kb [x0, x1, x2, x3, x4, x5, x6, x7]))
            case first =>
              refine wp_region_held_drew (S := (fun w' : World => w'.cell? ⟨Kb, 6, none⟩ = some (.string x6) ∧ w'.cell? ⟨Kb, 7, none⟩ = some (.string x7))) (by kernel_rfl) ?_ (fun hHeld => ?_)
              · first | exact hM0 | exact hM1 | exact hMa | exact hMb | exact ⟨(hR5.out.below (alb _ _)).cw 6 x6 rfl, (hR5.out.below (alb _ _)).cw 7 x7 rfl⟩ | exact ⟨(hR5.out.put hlt.out.1 (Nat.ne_of_lt hlt.out.2) A2 B2).cw 6 x6 rfl, (hR5.out.put hlt.out.1 (Nat.ne_of_lt hlt.out.2) A2 B2).cw 7 x7 rfl⟩
              generalize wc.drew = WD at *
              first | (refine tw (i := 0) (v := ?_) ?_ hHeld ?_; rotate_left; focus (intro w hSw; (try dsimp only at hSw); (try skip); go_simp; (try with_reducible rfl); done)) | refine tn (i := 0) hHeld ?_
              try simp only [Act.put, List.setIfInBounds_toArray, List.set_cons_zero, List.set_cons_succ]
              first | (refine tw (i := 1) (v := ?_) ?_ hHeld ?_; rotate_left; focus (intro w hSw; (try dsimp only at hSw); (try skip); go_simp; (try with_reducible rfl); done)) | refine tn (i := 1) hHeld ?_
              try simp only [Act.put, List.setIfInBounds_toArray, List.set_cons_zero, List.set_cons_succ]
              first | (refine tw (i := 2) (v := ?_) ?_ hHeld ?_; rotate_left; focus (intro w hSw; (try dsimp only at hSw); (try skip); go_simp; (try with_reducible rfl); done)) | refine tn (i := 2) hHeld ?_
              try simp only [Act.put, List.setIfInBounds_toArray, List.set_cons_zero, List.set_cons_succ]
              first | (refine tw (i := 3) (v := ?_) ?_ hHeld ?_; rotate_left; focus (intro w hSw; (try dsimp only at hSw); (try skip); go_simp; (try with_reducible rfl); done)) | refine tn (i := 3) hHeld ?_
              try simp only [Act.put, List.setIfInBounds_toArray, List.set_cons_zero, List.set_cons_succ]
              first | (refine tw (i := 4) (v := ?_) ?_ hHeld ?_; rotate_left; focus (intro w hSw; (try dsimp only at hSw); (try skip); go_simp; (try with_reducible rfl); done)) | refine tn (i := 4) hHeld ?_
              try simp only [Act.put, List.setIfInBounds_toArray, List.set_cons_zero, List.set_cons_succ]
              first | (refine tw (i := 5) (v := ?_) ?_ hHeld ?_; rotate_left; focus (intro w hSw; (try dsimp only at hSw); (try skip); go_simp; (try with_reducible rfl); done)) | refine tn (i := 5) hHeld ?_
              try simp only [Act.put, List.setIfInBounds_toArray, List.set_cons_zero, List.set_cons_succ]
              refine call_next2 (i := 6) (j := 10) (by kernel_rfl) (by rfl) (by rfl) ?_ ?_
              · intro o ho K hK
                simp only [List.getElem?_toArray, List.getElem?_cons_succ, List.getElem?_cons_zero, Option.some.injEq] at ho
                subst ho
                first | (fail; refine hK.out _ _ ?_ (fun hHeld => ?_)) | (go_simp; first | (with_reducible refine hK.out _ _ ?_ (fun hHeld => ?_)) | ((first | (go_at_call 25; (with_reducible refine (hRd2.out _ hD.out.ml).mono ?_); rintro e5 w5 ⟨rfl, hA⟩; have hR5 := Lib.hid (hD.out.below hA); have hg5 := Lib.hid (hgD.out.below hA); have hM1 := And.intro (hR5.out.cw 6 x6 rfl) (hR5.out.cw 7 x7 rfl); have hMb := hM1; clear hA) | (go_at_call 25; (with_reducible refine (hRd2.out _ hDa.out.ml).mono ?_); rintro e5 w6 ⟨rfl, hA⟩; have hR5 := Lib.hid (hDa.out.below hA); have hg5 := Lib.hid ((hgD.out.below (alb _ _)).below hA); have hM1 := And.intro (hR5.out.cw 6 x6 rfl) (hR5.out.cw 7 x7 rfl); have hMb := hM1; have hN := Lib.hid (hN0.out.below hA); have a0 := hN.out.c0; have a1 := hN.out.c1; have b0 := hN.out.free 0; have b1 := hN.out.free 1; clear hA)); refine hK.out _ _ ?_ (fun hHeld => ?_)))
                · first | exact hM0 | exact hM1 | exact hMa | exact hMb | exact ⟨(hR5.out.below (alb _ _)).cw 6 x6 rfl, (hR5.out.below (alb _ _)).cw 7 x7 rfl⟩ | exact ⟨(hR5.out.put hlt.out.1 (Nat.ne_of_lt hlt.out.2) A2 B2).cw 6 x6 rfl, (hR5.out.put hlt.out.1 (Nat.ne_of_lt hlt.out.2) A2 B2).cw 7 x7 rfl⟩
                clear hK K
                try simp only [Act.put, List.setIfInBounds_toArray, List.set_cons_zero, List.set_cons_succ]
                first | (refine tw (i := 7) (v := ?_) ?_ hHeld ?_; rotate_left; focus (intro w hSw; (try dsimp only at hSw); (try skip); go_simp; (try with_reducible rfl); done)) | refine tn (i := 7) hHeld ?_
                try simp only [Act.put, List.setIfInBounds_toArray, List.set_cons_zero, List.set_cons_succ]
                first | (refine tw (i := 8) (v := ?_) ?_ hHeld ?_; rotate_left; focus (intro w hSw; (try dsimp only at hSw); (try skip); go_simp; (try with_reducible rfl); done)) | refine tn (i := 8) hHeld ?_
                try simp only [Act.put, List.setIfInBounds_toArray, List.set_cons_zero, List.set_cons_succ]
                first | (refine tw (i := 9) (v := ?_) ?_ hHeld ?_; rotate_left; focus (intro w hSw; (try dsimp only at hSw); (try skip); go_simp; (try with_reducible rfl); done)) | refine tn (i := 9) hHeld ?_
                try simp only [Act.put, List.setIfInBounds_toArray, List.set_cons_zero, List.set_cons_succ]
                refine call_next (i := 10) (by kernel_rfl) (by rfl) ?_
                intro o ho K hK
                simp only [List.getElem?_toArray, List.getElem?_cons_succ, List.getElem?_cons_zero, Option.some.injEq] at ho
                subst ho
                first | (fail; refine hK.out _ _ ?_ (fun hHeld => ?_)) | (go_simp; first | (with_reducible refine hK.out _ _ ?_ (fun hHeld => ?_)) | ((first | (go_at_call 25; (with_reducible refine (hRd2.out _ hD.out.ml).mono ?_); rintro e5 w5 ⟨rfl, hA⟩; have hR5 := Lib.hid (hD.out.below hA); have hg5 := Lib.hid (hgD.out.below hA); have hM1 := And.intro (hR5.out.cw 6 x6 rfl) (hR5.out.cw 7 x7 rfl); have hMb := hM1; clear hA) | (go_at_call 25; (with_reducible refine (hRd2.out _ hDa.out.ml).mono ?_); rintro e5 w6 ⟨rfl, hA⟩; have hR5 := Lib.hid (hDa.out.below hA); have hg5 := Lib.hid ((hgD.out.below (alb _ _)).below hA); have hM1 := And.intro (hR5.out.cw 6 x6 rfl) (hR5.out.cw 7 x7 rfl); have hMb := hM1; have hN := Lib.hid (hN0.out.below hA); have a0 := hN.out.c0; have a1 := hN.out.c1; have b0 := hN.out.free 0; have b1 := hN.out.free 1; clear hA)); refine hK.out _ _ ?_ (fun hHeld => ?_)))
                · first | exact hM0 | exact hM1 | exact hMa | exact hMb | exact ⟨(hR5.out.below (alb _ _)).cw 6 x6 rfl, (hR5.out.below (alb _ _)).cw 7 x7 rfl⟩ | exact ⟨(hR5.out.put hlt.out.1 (Nat.ne_of_lt hlt.out.2) A2 B2).cw 6 x6 rfl, (hR5.out.put hlt.out.1 (Nat.ne_of_lt hlt.out.2) A2 B2).cw 7 x7 rfl⟩
                clear hK K
                try simp only [Act.put, List.setIfInBounds_toArray, List.set_cons_zero, List.set_cons_succ]
                refine call_next (i := 11) (by kernel_rfl) (by rfl) ?_
                intro o ho K hK
                simp only [List.getElem?_toArray, List.getElem?_cons_succ, List.getElem?_cons_zero, Option.some.injEq] at ho
                subst ho
                first | (fail; refine hK.out _ _ ?_ (fun hHeld => ?_)) | (go_simp; first | (with_reducible refine hK.out _ _ ?_ (fun hHeld => ?_)) | ((first | (go_at_call 25; (with_reducible refine (hRd2.out _ hD.out.ml).mono ?_); rintro e5 w5 ⟨rfl, hA⟩; have hR5 := Lib.hid (hD.out.below hA); have hg5 := Lib.hid (hgD.out.below hA); have hM1 := And.intro (hR5.out.cw 6 x6 rfl) (hR5.out.cw 7 x7 rfl); have hMb := hM1; clear hA) | (go_at_call 25; (with_reducible refine (hRd2.out _ hDa.out.ml).mono ?_); rintro e5 w6 ⟨rfl, hA⟩; have hR5 := Lib.hid (hDa.out.below hA); have hg5 := Lib.hid ((hgD.out.below (alb _ _)).below hA); have hM1 := And.intro (hR5.out.cw 6 x6 rfl) (hR5.out.cw 7 x7 rfl); have hMb := hM1; have hN := Lib.hid (hN0.out.below hA); have a0 := hN.out.c0; have a1 := hN.out.c1; have b0 := hN.out.free 0; have b1 := hN.out.free 1; clear hA)); refine hK.out _ _ ?_ (fun hHeld => ?_)))
                · first | exact hM0 | exact hM1 | exact hMa | exact hMb | exact ⟨(hR5.out.below (alb _ _)).cw 6 x6 rfl, (hR5.out.below (alb _ _)).cw 7 x7 rfl⟩ | exact ⟨(hR5.out.put hlt.out.1 (Nat.ne_of_lt hlt.out.2) A2 B2).cw 6 x6 rfl, (hR5.out.put hlt.out.1 (Nat.ne_of_lt hlt.out.2) A2 B2).cw 7 x7 rfl⟩
                clear hK K
                try simp only [Act.put, List.setIfInBounds_toArray, List.set_cons_zero, List.set_cons_succ]
                first | (refine tw (i := 12) (v := ?_) ?_ hHeld ?_; rotate_left; focus (intro w hSw; (try dsimp only at hSw); (try skip); go_simp; (try with_reducible rfl); done)) | refine tn (i := 12) hHeld ?_
                try simp only [Act.put, List.setIfInBounds_toArray, List.set_cons_zero, List.set_cons_succ]
                refine wpAnyH_done (by kernel_rfl) ?_ _
                go_wp2
                go_meet
                case rel => first | exact ⟨_, rfl, rfl, V2.new _ _ _, (hR5.out.lt (by simp)).1, (hg5.out.below (alb _ _)), hR5.out.below (alb _ _)⟩ | exact ⟨_, rfl, rfl, hN.out.put A2 B2, hlt.out.1, hg5.out.other (Nat.ne_of_lt hG1.out) A2 B2, hR5.out.put hlt.out.1 (Nat.ne_of_lt hlt.out.2) A2 B2⟩
              · intro o ho K hK
                simp only [List.getElem?_toArray, List.getElem?_cons_succ, List.getElem?_cons_zero, Option.some.injEq] at ho
                subst ho
                first | (fail; refine hK.out _ _ ?_ (fun hHeld => ?_)) | (go_simp; first | (with_reducible refine hK.out _ _ ?_ (fun hHeld => ?_)) | ((first | (go_at_call 25; (with_reducible refine (hRd2.out _ hD.out.ml).mono ?_); rintro e5 w5 ⟨rfl, hA⟩; have hR5 := Lib.hid (hD.out.below hA); have hg5 := Lib.hid (hgD.out.below hA); have hM1 := And.intro (hR5.out.cw 6 x6 rfl) (hR5.out.cw 7 x7 rfl); have hMb := hM1; clear hA) | (go_at_call 25; (with_reducible refine (hRd2.out _ hDa.out.ml).mono ?_); rintro e5 w6 ⟨rfl, hA⟩; have hR5 := Lib.hid (hDa.out.below hA); have hg5 := Lib.hid ((hgD.out.below (alb _ _)).below hA); have hM1 := And.intro (hR5.out.cw 6 x6 rfl) (hR5.out.cw 7 x7 rfl); have hMb := hM1; have hN := Lib.hid (hN0.out.below hA); have a0 := hN.out.c0; have a1 := hN.out.c1; have b0 := hN.out.free 0; have b1 := hN.out.free 1; clear hA)); refine hK.out _ _ ?_ (fun hHeld => ?_)))
                · first | exact hM0 | exact hM1 | exact hMa | exact hMb | exact ⟨(hR5.out.below (alb _ _)).cw 6 x6 rfl, (hR5.out.below (alb _ _)).cw 7 x7 rfl⟩ | exact ⟨(hR5.out.put hlt.out.1 (Nat.ne_of_lt hlt.out.2) A2 B2).cw 6 x6 rfl, (hR5.out.put hlt.out.1 (Nat.ne_of_lt hlt.out.2) A2 B2).cw 7 x7 rfl⟩
                clear hK K
                try simp only [Act.put, List.setIfInBounds_toArray, List.set_cons_zero, List.set_cons_succ]
                refine call_next (i := 6) (by kernel_rfl) (by rfl) ?_
                intro o ho K hK
                simp only [List.getElem?_toArray, List.getElem?_cons_succ, List.getElem?_cons_zero, Option.some.injEq] at ho
                subst ho
                first | (fail; refine hK.out _ _ ?_ (fun hHeld => ?_)) | (go_simp; first | (with_reducible refine hK.out _ _ ?_ (fun hHeld => ?_)) | ((first | (go_at_call 25; (with_reducible refine (hRd2.out _ hD.out.ml).mono ?_); rintro e5 w5 ⟨rfl, hA⟩; have hR5 := Lib.hid (hD.out.below hA); have hg5 := Lib.hid (hgD.out.below hA); have hM1 := And.intro (hR5.out.cw 6 x6 rfl) (hR5.out.cw 7 x7 rfl); have hMb := hM1; clear hA) | (go_at_call 25; (with_reducible refine (hRd2.out _ hDa.out.ml).mono ?_); rintro e5 w6 ⟨rfl, hA⟩; have hR5 := Lib.hid (hDa.out.below hA); have hg5 := Lib.hid ((hgD.out.below (alb _ _)).below hA); have hM1 := And.intro (hR5.out.cw 6 x6 rfl) (hR5.out.cw 7 x7 rfl); have hMb := hM1; have hN := Lib.hid (hN0.out.below hA); have a0 := hN.out.c0; have a1 := hN.out.c1; have b0 := hN.out.free 0; have b1 := hN.out.free 1; clear hA)); refine hK.out _ _ ?_ (fun hHeld => ?_)))
                · first | exact hM0 | exact hM1 | exact hMa | exact hMb | exact ⟨(hR5.out.below (alb _ _)).cw 6 x6 rfl, (hR5.out.below (alb _ _)).cw 7 x7 rfl⟩ | exact ⟨(hR5.out.put hlt.out.1 (Nat.ne_of_lt hlt.out.2) A2 B2).cw 6 x6 rfl, (hR5.out.put hlt.out.1 (Nat.ne_of_lt hlt.out.2) A2 B2).cw 7 x7 rfl⟩
                clear hK K
                try simp only [Act.put, List.setIfInBounds_toArray, List.set_cons_zero, List.set_cons_succ]
                first | (refine tw (i := 7) (v := ?_) ?_ hHeld ?_; rotate_left; focus (intro w hSw; (try dsimp only at hSw); (try skip); go_simp; (try with_reducible rfl); done)) | refine tn (i := 7) hHeld ?_
                try simp only [Act.put, List.setIfInBounds_toArray, List.set_cons_zero, List.set_cons_succ]
                first | (refine tw (i := 8) (v := ?_) ?_ hHeld ?_; rotate_left; focus (intro w hSw; (try dsimp only at hSw); (try skip); go_simp; (try with_reducible rfl); done)) | refine tn (i := 8) hHeld ?_
                try simp only [Act.put, List.setIfInBounds_toArray, List.set_cons_zero, List.set_cons_succ]
                first | (refine tw (i := 9) (v := ?_) ?_ hHeld ?_; rotate_left; focus (intro w hSw; (try dsimp only at hSw); (try skip); go_simp; (try with_reducible rfl); done)) | refine tn (i := 9) hHeld ?_
                try simp only [Act.put, List.setIfInBounds_toArray, List.set_cons_zero, List.set_cons_succ]
                refine call_next (i := 11) (by kernel_rfl) (by rfl) ?_
                intro o ho K hK
                simp only [List.getElem?_toArray, List.getElem?_cons_succ, List.getElem?_cons_zero, Option.some.injEq] at ho
                subst ho
                first | (fail; refine hK.out _ _ ?_ (fun hHeld => ?_)) | (go_simp; first | (with_reducible refine hK.out _ _ ?_ (fun hHeld => ?_)) | ((first | (go_at_call 25; (with_reducible refine (hRd2.out _ hD.out.ml).mono ?_); rintro e5 w5 ⟨rfl, hA⟩; have hR5 := Lib.hid (hD.out.below hA); have hg5 := Lib.hid (hgD.out.below hA); have hM1 := And.intro (hR5.out.cw 6 x6 rfl) (hR5.out.cw 7 x7 rfl); have hMb := hM1; clear hA) | (go_at_call 25; (with_reducible refine (hRd2.out _ hDa.out.ml).mono ?_); rintro e5 w6 ⟨rfl, hA⟩; have hR5 := Lib.hid (hDa.out.below hA); have hg5 := Lib.hid ((hgD.out.below (alb _ _)).below hA); have hM1 := And.intro (hR5.out.cw 6 x6 rfl) (hR5.out.cw 7 x7 rfl); have hMb := hM1; have hN := Lib.hid (hN0.out.below hA); have a0 := hN.out.c0; have a1 := hN.out.c1; have b0 := hN.out.free 0; have b1 := hN.out.free 1; clear hA)); refine hK.out _ _ ?_ (fun hHeld => ?_)))
                · first | exact hM0 | exact hM1 | exact hMa | exact hMb | exact ⟨(hR5.out.below (alb _ _)).cw 6 x6 rfl, (hR5.out.below (alb _ _)).cw 7 x7 rfl⟩ | exact ⟨(hR5.out.put hlt.out.1 (Nat.ne_of_lt hlt.out.2) A2 B2).cw 6 x6 rfl, (hR5.out.put hlt.out.1 (Nat.ne_of_lt hlt.out.2) A2 B2).cw 7 x7 rfl⟩
                clear hK K
                try simp only [Act.put, List.setIfInBounds_toArray, List.set_cons_zero, List.set_cons_succ]
                first | (refine tw (i := 12) (v := ?_) ?_ hHeld ?_; rotate_left; focus (intro w hSw; (try dsimp only at hSw); (try skip); go_simp; (try with_reducible rfl); done)) | refine tn (i := 12) hHeld ?_
                try simp only [Act.put, List.setIfInBounds_toArray, List.set_cons_zero, List.set_cons_succ]
                refine wpAnyH_done (by kernel_rfl) ?_ _
                go_wp2
                go_meet
                case rel => first | exact ⟨_, rfl, rfl, V2.new _ _ _, (hR5.out.lt (by simp)).1, (hg5.out.below (alb _ _)), hR5.out.below (alb _ _)⟩ | exact ⟨_, rfl, rfl, hN.out.put A2 B2, hlt.out.1, hg5.out.other (Nat.ne_of_lt hG1.out) A2 B2, hR5.out.put hlt.out.1 (Nat.ne_of_lt hlt.out.2) A2 B2⟩
            case rest =>
              obtain ⟨g2, rfl, rfl, hg2, hgl, hg1, hR3⟩ := hcut
              clear hD hDa hM0 hMa hlt hN0 hR2 hRd2 hgD hG1
              by_cases he : e1 = 0
              · subst he
                by_cases hv : 0 ≤ v1
                · have d1 : decide (v1 < 0) = false := decide_eq_false (by omega)
                  cases ok1 with
                  | false =>
                    replace hG : good = false := hG.trans (by simp)
                    subst hG
                    replace hV : res = badV := hV
                    replace hV := Lib.hid hV
                    clear hW
                    go_wp2_with fail
                    have q0 := hR3.out.z6.c0
                    have q1 := hR3.out.z6.c1
                    have r0 := hR3.out.z3.c0
                    have r1 := hR3.out.z3.c1
                    have s0 := hR3.out.z4.c0
                    have s1 := hR3.out.z4.c1
                    have f0 := hR3.out.z3.free 0
                    have f1 := hR3.out.z3.free 1
                    have g0 := hR3.out.z4.free 0
                    have g1' := hR3.out.z4.free 1
                    go_region
                    have hO := hR3.out.out 0 0 0 0
                    have o0 := (hO.1.below (bdrw _)).c0
                    have o1 := (hO.1.below (bdrw _)).c1
                    have o2 := (hO.2.1.below (bdrw _)).c0
                    have o3 := (hO.2.1.below (bdrw _)).c1
                    have hbF := Lib.hid (bt hO.2.2 (bdrw _))
                    clear q0 q1 r0 r1 s0 s1 f0 f1 g0 g1' hO
                    unfold outW at o0 o1 o2 o3 hbF
                    generalize ((((wc.setCell ⟨w.heap.size, 0, none⟩ (.int .i64 0)).setCell ⟨w.heap.size, 1, none⟩ (.int .i64 0)).setCell ⟨w.heap.size + 1, 0, none⟩ (.int .i64 0)).setCell ⟨w.heap.size + 1, 1, none⟩ (.int .i64 0)).drew = WF at *
                    go_wp2
                    refine bodyPost_ret (v := .tuple #[.int .i64 0, .agg #[.int .i64 0, .int .i64 0], .agg #[.int .i64 0, .int .i64 0], .int .i64 4]) (by simp [results, Tryd.results8, go_sem, o0, o1, o2, o3]) rfl ?_
                    exact hE.out _ _ hV.out.symm hbF.out
                  | true =>
                    cases ok2 with
                    | false =>
                      replace hG : good = false := hG.trans (by simp)
                      subst hG
                      replace hV : res = badV := hV
                      replace hV := Lib.hid hV
                      clear hW
                      go_wp2_with fail
                      have q0 := hR3.out.z6.c0
                      have q1 := hR3.out.z6.c1
                      have r0 := hR3.out.z3.c0
                      have r1 := hR3.out.z3.c1
                      have s0 := hR3.out.z4.c0
                      have s1 := hR3.out.z4.c1
                      have f0 := hR3.out.z3.free 0
                      have f1 := hR3.out.z3.free 1
                      have g0 := hR3.out.z4.free 0
                      have g1' := hR3.out.z4.free 1
                      go_region
                      have hO := hR3.out.out 0 0 0 0
                      have o0 := (hO.1.below (bdrw _)).c0
                      have o1 := (hO.1.below (bdrw _)).c1
                      have o2 := (hO.2.1.below (bdrw _)).c0
                      have o3 := (hO.2.1.below (bdrw _)).c1
                      have hbF := Lib.hid (bt hO.2.2 (bdrw _))
                      clear q0 q1 r0 r1 s0 s1 f0 f1 g0 g1' hO
                      unfold outW at o0 o1 o2 o3 hbF
                      generalize ((((wc.setCell ⟨w.heap.size, 0, none⟩ (.int .i64 0)).setCell ⟨w.heap.size, 1, none⟩ (.int .i64 0)).setCell ⟨w.heap.size + 1, 0, none⟩ (.int .i64 0)).setCell ⟨w.heap.size + 1, 1, none⟩ (.int .i64 0)).drew = WF at *
                      go_wp2
                      refine bodyPost_ret (v := .tuple #[.int .i64 0, .agg #[.int .i64 0, .int .i64 0], .agg #[.int .i64 0, .int .i64 0], .int .i64 4]) (by simp [results, Tryd.results8, go_sem, o0, o1, o2, o3]) rfl ?_
                      exact hE.out _ _ hV.out.symm hbF.out
                    | true =>
                      replace hG : good = true := hG.trans (by simp [hv])
                      subst hG
                      replace hV : res = gv := hV
                      replace hV := Lib.hid (hV.trans hW.out)
                      clear hW
                      go_wp2_with fail
                      have q0 := hR3.out.z6.c0
                      have q1 := hR3.out.z6.c1
                      have r0 := hR3.out.z3.c0
                      have r1 := hR3.out.z3.c1
                      have s0 := hR3.out.z4.c0
                      have s1 := hR3.out.z4.c1
                      have f0 := hR3.out.z3.free 0
                      have f1 := hR3.out.z3.free 1
                      have g0 := hR3.out.z4.free 0
                      have g1' := hR3.out.z4.free 1
                      have y0 := hg1.out.c0
                      have y1 := hg1.out.c1
                      have y2 := hg2.out.c0
                      have y3 := hg2.out.c1
                      have hyy := hg2.out.other (J := w.heap.size) (by have := hgl.out; omega) A1 B1
                      have y4 := hyy.c0
                      have y5 := hyy.c1
                      clear hyy
                      go_region
                      have hO := hR3.out.out A1 B1 A2 B2
                      have o0 := (hO.1.below (bdrw _)).c0
                      have o1 := (hO.1.below (bdrw _)).c1
                      have o2 := (hO.2.1.below (bdrw _)).c0
                      have o3 := (hO.2.1.below (bdrw _)).c1
                      have hbF := Lib.hid (bt hO.2.2 (bdrw _))
                      clear q0 q1 r0 r1 s0 s1 f0 f1 g0 g1' hO y0 y1 y2 y3 y4 y5
                      unfold outW at o0 o1 o2 o3 hbF
                      generalize ((((wc.setCell ⟨w.heap.size, 0, none⟩ (.int .i64 A1)).setCell ⟨w.heap.size, 1, none⟩ (.int .i64 B1)).setCell ⟨w.heap.size + 1, 0, none⟩ (.int .i64 A2)).setCell ⟨w.heap.size + 1, 1, none⟩ (.int .i64 B2)).drew = WF at *
                      go_wp2
                      refine bodyPost_ret (v := .tuple #[.int .i64 v1, .agg #[.int .i64 A1, .int .i64 B1], .agg #[.int .i64 A2, .int .i64 B2], .int .i64 0]) (by simp [results, Tryd.results8, go_sem, o0, o1, o2, o3]) rfl ?_
                      exact hE.out _ _ hV.out.symm hbF.out
                · have d1 : decide (v1 < 0) = true := decide_eq_true (by omega)
                  replace hG : good = false := hG.trans (by simp [hv])
                  subst hG
                  replace hV : res = badV := hV
                  replace hV := Lib.hid hV
                  clear hW
                  go_wp2_with fail
                  have q0 := hR3.out.z6.c0
                  have q1 := hR3.out.z6.c1
                  have r0 := hR3.out.z3.c0
                  have r1 := hR3.out.z3.c1
                  have s0 := hR3.out.z4.c0
                  have s1 := hR3.out.z4.c1
                  have f0 := hR3.out.z3.free 0
                  have f1 := hR3.out.z3.free 1
                  have g0 := hR3.out.z4.free 0
                  have g1' := hR3.out.z4.free 1
                  go_region
                  have hO := hR3.out.out 0 0 0 0
                  have o0 := (hO.1.below (bdrw _)).c0
                  have o1 := (hO.1.below (bdrw _)).c1
                  have o2 := (hO.2.1.below (bdrw _)).c0
                  have o3 := (hO.2.1.below (bdrw _)).c1
                  have hbF := Lib.hid (bt hO.2.2 (bdrw _))
                  clear q0 q1 r0 r1 s0 s1 f0 f1 g0 g1' hO
                  unfold outW at o0 o1 o2 o3 hbF
                  generalize ((((wc.setCell ⟨w.heap.size, 0, none⟩ (.int .i64 0)).setCell ⟨w.heap.size, 1, none⟩ (.int .i64 0)).setCell ⟨w.heap.size + 1, 0, none⟩ (.int .i64 0)).setCell ⟨w.heap.size + 1, 1, none⟩ (.int .i64 0)).drew = WF at *
                  go_wp2
                  refine bodyPost_ret (v := .tuple #[.int .i64 0, .agg #[.int .i64 0, .int .i64 0], .agg #[.int .i64 0, .int .i64 0], .int .i64 4]) (by simp [results, Tryd.results8, go_sem, o0, o1, o2, o3]) rfl ?_
                  exact hE.out _ _ hV.out.symm hbF.out
              · have n1 : (e1 != 0) = true := by simpa [bne] using he
                have n2 : (e1 == 0) = false := by simpa using he
                replace hG : good = false := hG.trans (by simp [he])
                subst hG
                clear he
                replace hV : res = badV := hV
                replace hV := Lib.hid hV
                clear hW
                go_wp2_with fail
                have q0 := hR3.out.z6.c0
                have q1 := hR3.out.z6.c1
                have r0 := hR3.out.z3.c0
                have r1 := hR3.out.z3.c1
                have s0 := hR3.out.z4.c0
                have s1 := hR3.out.z4.c1
                have f0 := hR3.out.z3.free 0
                have f1 := hR3.out.z3.free 1
                have g0 := hR3.out.z4.free 0
                have g1' := hR3.out.z4.free 1
                go_region
                have hO := hR3.out.out 0 0 0 0
                have o0 := (hO.1.below (bdrw _)).c0
                have o1 := (hO.1.below (bdrw _)).c1
                have o2 := (hO.2.1.below (bdrw _)).c0
                have o3 := (hO.2.1.below (bdrw _)).c1
                have hbF := Lib.hid (bt hO.2.2 (bdrw _))
                clear q0 q1 r0 r1 s0 s1 f0 f1 g0 g1' hO
                unfold outW at o0 o1 o2 o3 hbF
                generalize ((((wc.setCell ⟨w.heap.size, 0, none⟩ (.int .i64 0)).setCell ⟨w.heap.size, 1, none⟩ (.int .i64 0)).setCell ⟨w.heap.size + 1, 0, none⟩ (.int .i64 0)).setCell ⟨w.heap.size + 1, 1, none⟩ (.int .i64 0)).drew = WF at *
                go_wp2
                refine bodyPost_ret (v := .tuple #[.int .i64 0, .agg #[.int .i64 0, .int .i64 0], .agg #[.int .i64 0, .int .i64 0], .int .i64 4]) (by simp [results, Tryd.results8, go_sem, o0, o1, o2, o3]) rfl ?_
                exact hE.out _ _ hV.out.symm hbF.out
        · have n5 : (x5.toList == [98]) = false := beq_eq_false_iff_ne.2 (fun h => k5 (ba_ext (h.trans lB.symm)))
          have n5' : (x5.toList != [98]) = true := by rw [bne, n5]; rfl
          replace hG : good = false := hG.trans (by simp [k5])
          subst hG
          replace hV : res = badV := hV
          replace hV := Lib.hid hV
          clear hW hRd1 hRd2 hRe
          try clear k0
          try clear k2
          try clear k5
          go_enter Tryd.func8, Tryd.ntmps8
          go_wp2_with (go_at_call 23; (with_reducible refine hSq.out.mono ?_); rintro e1 w1 ⟨Kb, rfl, hR⟩; replace hR := Lib.hid hR; have c0 := hR.out.cw 0 x0 rfl; have c2 := hR.out.cw 2 x2 rfl; have c5 := hR.out.cw 5 x5 rfl)
          clear c0 c2 c5
          have q0 := hR.out.z6.c0
          have q1 := hR.out.z6.c1
          have r0 := hR.out.z3.c0
          have r1 := hR.out.z3.c1
          have s0 := hR.out.z4.c0
          have s1 := hR.out.z4.c1
          have f0 := hR.out.z3.free 0
          have f1 := hR.out.z3.free 1
          have g0 := hR.out.z4.free 0
          have g1' := hR.out.z4.free 1
          go_region
          have hO := hR.out.out 0 0 0 0
          have o0 := (hO.1.below (bdrw _)).c0
          have o1 := (hO.1.below (bdrw _)).c1
          have o2 := (hO.2.1.below (bdrw _)).c0
          have o3 := (hO.2.1.below (bdrw _)).c1
          have hbF := Lib.hid (bt hO.2.2 (bdrw _))
          clear q0 q1 r0 r1 s0 s1 f0 f1 g0 g1' hO
          unfold outW at o0 o1 o2 o3 hbF
          generalize ((((w1.setCell ⟨w.heap.size, 0, none⟩ (.int .i64 0)).setCell ⟨w.heap.size, 1, none⟩ (.int .i64 0)).setCell ⟨w.heap.size + 1, 0, none⟩ (.int .i64 0)).setCell ⟨w.heap.size + 1, 1, none⟩ (.int .i64 0)).drew = WF at *
          go_wp2
          refine bodyPost_ret (v := .tuple #[.int .i64 0, .agg #[.int .i64 0, .int .i64 0], .agg #[.int .i64 0, .int .i64 0], .int .i64 4]) (by simp [results, Tryd.results8, go_sem, o0, o1, o2, o3]) rfl ?_
          exact hE.out _ _ hV.out.symm hbF.out
      · have n2 : (x2.toList == [97]) = false := beq_eq_false_iff_ne.2 (fun h => k2 (ba_ext (h.trans lA.symm)))
        have n2' : (x2.toList != [97]) = true := by rw [bne, n2]; rfl
        replace hG : good = false := hG.trans (by simp [k2])
        subst hG
        replace hV : res = badV := hV
        replace hV := Lib.hid hV
        clear hW hRd1 hRd2 hRe
        try clear k0
        try clear k2
        try clear k5
        go_enter Tryd.func8, Tryd.ntmps8
        go_wp2_with (go_at_call 23; (with_reducible refine hSq.out.mono ?_); rintro e1 w1 ⟨Kb, rfl, hR⟩; replace hR := Lib.hid hR; have c0 := hR.out.cw 0 x0 rfl; have c2 := hR.out.cw 2 x2 rfl; have c5 := hR.out.cw 5 x5 rfl)
        clear c0 c2 c5
        have q0 := hR.out.z6.c0
        have q1 := hR.out.z6.c1
        have r0 := hR.out.z3.c0
        have r1 := hR.out.z3.c1
        have s0 := hR.out.z4.c0
        have s1 := hR.out.z4.c1
        have f0 := hR.out.z3.free 0
        have f1 := hR.out.z3.free 1
        have g0 := hR.out.z4.free 0
        have g1' := hR.out.z4.free 1
        go_region
        have hO := hR.out.out 0 0 0 0
        have o0 := (hO.1.below (bdrw _)).c0
        have o1 := (hO.1.below (bdrw _)).c1
        have o2 := (hO.2.1.below (bdrw _)).c0
        have o3 := (hO.2.1.below (bdrw _)).c1
        have hbF := Lib.hid (bt hO.2.2 (bdrw _))
        clear q0 q1 r0 r1 s0 s1 f0 f1 g0 g1' hO
        unfold outW at o0 o1 o2 o3 hbF
        generalize ((((w1.setCell ⟨w.heap.size, 0, none⟩ (.int .i64 0)).setCell ⟨w.heap.size, 1, none⟩ (.int .i64 0)).setCell ⟨w.heap.size + 1, 0, none⟩ (.int .i64 0)).setCell ⟨w.heap.size + 1, 1, none⟩ (.int .i64 0)).drew = WF at *
        go_wp2
        refine bodyPost_ret (v := .tuple #[.int .i64 0, .agg #[.int .i64 0, .int .i64 0], .agg #[.int .i64 0, .int .i64 0], .int .i64 4]) (by simp [results, Tryd.results8, go_sem, o0, o1, o2, o3]) rfl ?_
        exact hE.out _ _ hV.out.symm hbF.out
    · have n0 : (x0.toList == [99, 108, 97, 115, 104]) = false := beq_eq_false_iff_ne.2 (fun h => k0 (ba_ext (h.trans lC.symm)))
      have n0' : (x0.toList != [99, 108, 97, 115, 104]) = true := by rw [bne, n0]; rfl
      replace hG : good = false := hG.trans (by simp [k0])
      subst hG
      replace hV : res = badV := hV
      replace hV := Lib.hid hV
      clear hW hRd1 hRd2 hRe
      try clear k0
      try clear k2
      try clear k5
      go_enter Tryd.func8, Tryd.ntmps8
      go_wp2_with (go_at_call 23; (with_reducible refine hSq.out.mono ?_); rintro e1 w1 ⟨Kb, rfl, hR⟩; replace hR := Lib.hid hR; have c0 := hR.out.cw 0 x0 rfl; have c2 := hR.out.cw 2 x2 rfl; have c5 := hR.out.cw 5 x5 rfl)
      clear c0 c2 c5
      have q0 := hR.out.z6.c0
      have q1 := hR.out.z6.c1
      have r0 := hR.out.z3.c0
      have r1 := hR.out.z3.c1
      have s0 := hR.out.z4.c0
      have s1 := hR.out.z4.c1
      have f0 := hR.out.z3.free 0
      have f1 := hR.out.z3.free 1
      have g0 := hR.out.z4.free 0
      have g1' := hR.out.z4.free 1
      go_region
      have hO := hR.out.out 0 0 0 0
      have o0 := (hO.1.below (bdrw _)).c0
      have o1 := (hO.1.below (bdrw _)).c1
      have o2 := (hO.2.1.below (bdrw _)).c0
      have o3 := (hO.2.1.below (bdrw _)).c1
      have hbF := Lib.hid (bt hO.2.2 (bdrw _))
      clear q0 q1 r0 r1 s0 s1 f0 f1 g0 g1' hO
      unfold outW at o0 o1 o2 o3 hbF
      generalize ((((w1.setCell ⟨w.heap.size, 0, none⟩ (.int .i64 0)).setCell ⟨w.heap.size, 1, none⟩ (.int .i64 0)).setCell ⟨w.heap.size + 1, 0, none⟩ (.int .i64 0)).setCell ⟨w.heap.size + 1, 1, none⟩ (.int .i64 0)).drew = WF at *
      go_wp2
      refine bodyPost_ret (v := .tuple #[.int .i64 0, .agg #[.int .i64 0, .int .i64 0], .agg #[.int .i64 0, .int .i64 0], .int .i64 4]) (by simp [results, Tryd.results8, go_sem, o0, o1, o2, o3]) rfl ?_
      exact hE.out _ _ hV.out.symm hbF.out
  · have hne : ((ws.length : Int) != 8) = true := by simp [bne]; omega
    replace hG : good = false := hG.trans (by simp [h8])
    subst hG
    replace hV : res = badV := hV
    replace hV := Lib.hid hV
    clear hW hsz h8
    go_enter Tryd.func8, Tryd.ntmps8
    go_wp2_with (go_at_call 23; (with_reducible refine hSq.out.mono ?_); rintro e1 w1 ⟨Kb, rfl, hR⟩; replace hR := Lib.hid hR)
    have q0 := hR.out.z6.c0
    have q1 := hR.out.z6.c1
    have r0 := hR.out.z3.c0
    have r1 := hR.out.z3.c1
    have s0 := hR.out.z4.c0
    have s1 := hR.out.z4.c1
    have f0 := hR.out.z3.free 0
    have f1 := hR.out.z3.free 1
    have g0 := hR.out.z4.free 0
    have g1' := hR.out.z4.free 1
    go_region
    have hO := hR.out.out 0 0 0 0
    have o0 := (hO.1.below (bdrw _)).c0
    have o1 := (hO.1.below (bdrw _)).c1
    have o2 := (hO.2.1.below (bdrw _)).c0
    have o3 := (hO.2.1.below (bdrw _)).c1
    have hbF := Lib.hid (bt hO.2.2 (bdrw _))
    clear q0 q1 r0 r1 s0 s1 f0 f1 g0 g1' hO
    unfold outW at o0 o1 o2 o3 hbF
    generalize ((((w1.setCell ⟨w.heap.size, 0, none⟩ (.int .i64 0)).setCell ⟨w.heap.size, 1, none⟩ (.int .i64 0)).setCell ⟨w.heap.size + 1, 0, none⟩ (.int .i64 0)).setCell ⟨w.heap.size + 1, 1, none⟩ (.int .i64 0)).drew = WF at *
    go_wp2
    refine bodyPost_ret (v := .tuple #[.int .i64 0, .agg #[.int .i64 0, .int .i64 0], .agg #[.int .i64 0, .int .i64 0], .int .i64 4]) (by simp [results, Tryd.results8, go_sem, o0, o1, o2, o3]) rfl ?_
    exact hE.out _ _ hV.out.symm hbF.out
end Go.Proofs.YtaddbljdheafaaaDoor
