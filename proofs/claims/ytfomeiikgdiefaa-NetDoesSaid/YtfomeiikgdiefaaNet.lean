/-
  Frames under way (chapter 26): the net: one more, how many, one at a number.
-/
import Derived.Test.YtfomeiikgdiefaaUnd
import Derived.Test.YtfomeiikgdiefaaDrawS
import Derived.Handy
namespace Go.Proofs.Ytfomeiikgdiefaa
open Go.RowKit
set_option linter.unusedVariables false
set_option linter.unusedSimpArgs false

/-- what is under way lies behind p -/
structure NT (T : TypeId) (W : World) (p B : Nat) (v : Value) (l : List U2) : Prop where
  box : W.heap[p]? = some (.cells #[v] T (0, 0))
  row : URow W B v l
theorem NT.c0 {T : TypeId} {W : World} {p B : Nat} {v : Value} {l : List U2} (h : NT T W p B v l) : W.cell? ⟨p, 0, none⟩ = some v := by rw [cell_of_row W p 0 _ _ _ h.box]; rfl
theorem NT.f0 {T : TypeId} {W : World} {p B : Nat} {v : Value} {l : List U2} (h : NT T W p B v l) : W.frozen? ⟨p, 0, none⟩ = false := frozen_of_row W p 0 _ _ h.box
theorem NT.lt {T : TypeId} {W : World} {p B : Nat} {v : Value} {l : List U2} (h : NT T W p B v l) : p < W.heap.size := (Array.getElem?_eq_some_iff.1 h.box).1
theorem NT.frm {S : Nat → Prop} {T : TypeId} {W W' : World} {p B : Nat} {v : Value} {l : List U2} (h : NT T W p B v l) (hf : Frm S W W') (hp : ¬ S p) (hs : ∀ g, v.ownBlock = some g → ¬ S g) : NT T W' p B v l :=
  ⟨(hf.block p h.lt hp).trans h.box, h.row.frm hf hs⟩
theorem NT.below {T : TypeId} {W W' : World} {p B : Nat} {v : Value} {l : List U2} (h : NT T W p B v l) (hb : Below W.heap.size W W') : NT T W' p B v l := h.frm (S := fun _ => False) (.ofBelow hb) id fun _ _ => id
theorem NT.ne {T : TypeId} {W : World} {p B : Nat} {v : Value} {l : List U2} (h : NT T W p B v l) (hT : T ≠ 32) : v.ownBlock ≠ some p := h.row.ne h.box hT
theorem NT.put {T : TypeId} {W : World} {p B : Nat} {v v' : Value} {l' : List U2} (hb : W.heap[p]? = some (.cells #[v] T (0, 0))) (hr : URow W B v' l') (hT : T ≠ 32) : NT T (W.setCell ⟨p, 0, none⟩ v') p B v' l' := by
  refine ⟨heap_setCell_same W p 0 _ _ _ hb, hr.frm (Frm.one W p 0 v') ?_⟩
  intro g hg e
  subst e
  exact hr.ne hb hT hg
def putE (x : U2) (n : Nat) : Int := if x.1 ≠ 0 ∧ x.1 ≠ 1 then 3 else if 700 < x.2.size then 11 else if 200 ≤ n then 6 else 0
def putL (x : U2) (l : List U2) : List U2 := if putE x l.length = 0 then l ++ [x] else l
/-- what a change hands back -/
def NChg (T : TypeId) (w : World) (p B : Nat) (v : Value) (l' : List U2) (r : Value) (e : Ending) (w' : World) : Prop := e = .returned r ∧ ∃ v', NT T w' p B v' l' ∧ Stay w v v' ∧ Frm (fun k => k = p ∨ some k = v.ownBlock) w w'
theorem nnew_any (w : World) : Calls Try.prog 7 #[] w fun e w' => e = .returned (.pointer (some ⟨w.heap.size, 0, none⟩)) ∧ w' = w.alloc (.cells #[.slice none 0 0] 44) := by
  go_enter Try.func7, Try.ntmps7
  go_wp2
  go_ret
  exact ⟨rfl, rfl⟩
theorem nlen_any (p B : Nat) (v : Value) (l : List U2) (w : World) (h : NT 44 w p B v l) (hm : l.length ≤ 1000) : Calls Try.prog 19 #[.pointer (some ⟨p, 0, none⟩)] w fun e w' => e = .returned (.int .i64 l.length) ∧ w' = w := by
  obtain ⟨a, c, rfl⟩ := h.row.any
  have h0 := h.c0
  go_enter Try.func19, Try.ntmps19
  go_wp2
  go_ret
  exact ⟨rfl, rfl⟩
theorem nlen_none (w : World) : Calls Try.prog 19 #[.pointer none] w fun e w' => e = .returned (.int .i64 0) ∧ w' = w := by
  go_enter Try.func19, Try.ntmps19
  go_wp2
  go_ret
  exact ⟨rfl, rfl⟩
theorem nput_none (x : U2) (w : World) : Calls Try.prog 8 #[.pointer none, .agg #[.int .i64 x.1, .string x.2]] w fun e w' => e = .returned (.int .i64 10) ∧ Below w.heap.size w w' := by
  go_enter Try.func8, Try.ntmps8
  go_wp2
  go_ret
  exact ⟨rfl, (Below.refl _ _).alloc (Nat.le_refl _) _⟩
theorem NChg.same {T : TypeId} {w w' : World} {p B : Nat} {v : Value} {l : List U2} {r : Value} (h : NT T w p B v l) (hb : Below w.heap.size w w') : NChg T w p B v l r (.returned r) w' :=
  ⟨rfl, v, h.below hb, .inl rfl, .ofBelow hb⟩
theorem alb (W : World) (o : Obj) : Below W.heap.size W (W.alloc o) := (Below.refl _ _).alloc (Nat.le_refl _) _
theorem Stay.mono {w w' : World} {v v' : Value} (h : Stay w' v v') (hs : w.heap.size ≤ w'.heap.size) : Stay w v v' := by
  rcases h with h | ⟨g, h1, h2⟩
  · exact .inl h
  · exact .inr ⟨g, h1, Nat.le_trans hs h2⟩
theorem NT.app {T : TypeId} {w W w2 : World} {p B : Nat} {v v2 : Value} {l l2 : List U2} (hb : Below w.heap.size w W) (h : NT T W p B v l) (hT : T ≠ 32) (hs : URow w2 B v2 l2) (hf : Frm (fun k => some k = v.ownBlock) W w2) (hst : Stay W v v2) :
    ∃ v', NT T (w2.setCell ⟨p, 0, none⟩ v2) p B v' l2 ∧ Stay w v v' ∧ Frm (fun k => k = p ∨ some k = v.ownBlock) w (w2.setCell ⟨p, 0, none⟩ v2) := by
  have hne := h.ne hT
  refine ⟨v2, NT.put ((hf.block p h.lt (fun e => hne e.symm)).trans h.box) hs hT, hst.mono hb.size, ?_⟩
  exact ((Frm.ofBelow hb).trans (hf.mono fun k _ => .inr)).trans ((Frm.one w2 p 0 v2).mono fun k _ => .inl)
set_option maxHeartbeats 3200000 in
theorem nput_any (p B : Nat) (v : Value) (l : List U2) (x1 : Int) (x2 : ByteArray) (w : World) (h : NT 44 w p B v l) (hB : B ≤ w.heap.size) (hm : l.length ≤ 1000) : Calls Try.prog 8 #[.pointer (some ⟨p, 0, none⟩), .agg #[.int .i64 x1, .string x2]] w
    (NChg 44 w p B v (putL (x1, x2) l) (.int .i64 (putE (x1, x2) l.length))) := by
  obtain ⟨a, c, rfl⟩ := h.row.any
  have hW := h.below (alb w (.cells #[.int .i64 x1, .string x2] 32))
  have h0 := hW.c0
  have hsame := Lib.hid (fun r => NChg.same (r := r) h (alb w (.cells #[.int .i64 x1, .string x2] 32)))
  obtain ⟨E, hE⟩ : ∃ E, putE (x1, x2) l.length = E := ⟨_, rfl⟩
  have hL : putL (x1, x2) l = if E = 0 then l ++ [(x1, x2)] else l := by unfold putL; rw [hE]
  have hE2 : putE (x1, x2) l.length = if x1 ≠ 0 ∧ x1 ≠ 1 then 3 else if 700 < x2.size then 11 else if 200 ≤ l.length then 6 else 0 := rfl
  by_cases q1 : x1 ≠ 0 ∧ x1 ≠ 1
  · rw [if_pos q1, hE] at hE2
    subst hE2
    rw [hL, hE, if_neg (by decide)]
    have z1 : (x1 == 0) = false := beq_eq_false_iff_ne.2 q1.1
    have z1' : (x1 != 0) = true := by simp [bne, z1]
    have z2 : (x1 == 1) = false := beq_eq_false_iff_ne.2 q1.2
    have z2' : (x1 != 1) = true := by simp [bne, z2]
    clear hE hL q1
    go_enter Try.func8, Try.ntmps8
    go_wp2
    go_ret
    exact hsame.out _
  · have hq : (x1 != 0 && x1 != 1) = false := by
      by_cases e0 : x1 = 0
      · subst e0; rfl
      · have e1 : x1 = 1 := by omega
        subst e1; rfl
    rw [if_neg q1] at hE2
    have hx : x1 = 0 ∨ x1 = 1 := by omega
    clear q1 hq
    by_cases q2 : 700 < x2.size
    · rw [if_pos q2, hE] at hE2
      subst hE2
      rw [hL, hE, if_neg (by decide)]
      have z1 : decide ((700 : Int) < (x2.size : Int)) = true := decide_eq_true (by omega)
      have z2 : decide (700 < x2.size) = true := decide_eq_true q2
      clear hE hL
      rcases hx with rfl | rfl
      · go_enter Try.func8, Try.ntmps8
        go_wp2
        go_ret
        exact hsame.out _
      · go_enter Try.func8, Try.ntmps8
        go_wp2
        go_ret
        exact hsame.out _
    · have z1 : decide ((700 : Int) < (x2.size : Int)) = false := decide_eq_false (by omega)
      have z2 : decide (700 < x2.size) = false := decide_eq_false q2
      rw [if_neg q2] at hE2
      by_cases q3 : 200 ≤ l.length
      · rw [if_pos q3, hE] at hE2
        subst hE2
        rw [hL, hE, if_neg (by decide)]
        have z3 : decide ((200 : Int) ≤ (l.length : Int)) = true := decide_eq_true (by omega)
        have z4 : decide (200 ≤ l.length) = true := decide_eq_true q3
        clear hE hL
        rcases hx with rfl | rfl
        · go_enter Try.func8, Try.ntmps8
          go_wp2
          go_ret
          exact hsame.out _
        · go_enter Try.func8, Try.ntmps8
          go_wp2
          go_ret
          exact hsame.out _
      · have z3 : decide ((200 : Int) ≤ (l.length : Int)) = false := decide_eq_false (by omega)
        have z4 : decide (200 ≤ l.length) = false := decide_eq_false q3
        rw [if_neg q3, hE] at hE2
        subst hE2
        rw [hL, hE, if_pos rfl]
        clear hE hL hsame
        have hb1 : Below w.heap.size w ((w.alloc (.cells #[.int .i64 x1, .string x2] 32)).alloc (.cells #[.int .i64 x1, .string x2] 32)).drew := (bt (alb w _) (alb _ _)).drew
        have hN1 := h.below hb1
        have hB1 : B ≤ ((w.alloc (.cells #[.int .i64 x1, .string x2] 32)).alloc (.cells #[.int .i64 x1, .string x2] 32)).drew.heap.size := Nat.le_trans hB hb1.size
        have hux : UX ((w.alloc (.cells #[.int .i64 x1, .string x2] 32)).alloc (.cells #[.int .i64 x1, .string x2] 32)).drew (.slice (some ⟨w.heap.size + 1, 0, none⟩) 1 1) [(x1, x2)] := by
          have h1 := (UX.one (w.alloc (.cells #[.int .i64 x1, .string x2] 32)) (x1, x2)).below (Below.refl _ _).drew
          simpa using h1
        have hlen : l.length + [(x1, x2)].length ≤ 1000000 := by simp; omega
        have hne := hN1.ne (by decide)
        have M0 : (w.alloc (.cells #[.int .i64 x1, .string x2] 32)).drew.cell? ⟨p, 0, none⟩ = some (.slice a l.length c) ∧ (w.alloc (.cells #[.int .i64 x1, .string x2] 32)).drew.cell? ⟨w.heap.size, 0, none⟩ = some (.int .i64 x1) ∧ (w.alloc (.cells #[.int .i64 x1, .string x2] 32)).drew.cell? ⟨w.heap.size, 1, none⟩ = some (.string x2) := ⟨hW.c0, by simp [go_sem], by simp [go_sem]⟩
        have M1 : ((w.alloc (.cells #[.int .i64 x1, .string x2] 32)).alloc (.cells #[.int .i64 x1, .string x2] 32)).drew.cell? ⟨p, 0, none⟩ = some (.slice a l.length c) ∧ ((w.alloc (.cells #[.int .i64 x1, .string x2] 32)).alloc (.cells #[.int .i64 x1, .string x2] 32)).drew.cell? ⟨w.heap.size, 0, none⟩ = some (.int .i64 x1) ∧ ((w.alloc (.cells #[.int .i64 x1, .string x2] 32)).alloc (.cells #[.int .i64 x1, .string x2] 32)).drew.cell? ⟨w.heap.size, 1, none⟩ = some (.string x2) := ⟨hN1.c0, by simp [go_sem], by simp [go_sem]⟩
        rcases hx with rfl | rfl
        · go_enter Try.func8, Try.ntmps8
          go_wp2
          refine wp_region_drewS (S := (fun w' : World => w'.cell? ⟨p, 0, none⟩ = some (.slice a l.length c) ∧ w'.cell? ⟨w.heap.size, 0, none⟩ = some (.int .i64 0) ∧ w'.cell? ⟨w.heap.size, 1, none⟩ = some (.string x2))) 10 (by kernel_rfl) (by kernel_rfl) ?_ (fun hLst hHeld => ?_)
          · first | exact M0 | exact M1 | exact M2
          first | (refine tws (i := 0) (v := ?_) hLst ?_ hHeld ?_; rotate_left; focus (intro w hSw; (try dsimp only at hSw); go_simp; (try with_reducible rfl); done)) | refine tns (i := 0) hLst hHeld ?_
          try simp only [Act.put, List.setIfInBounds_toArray, List.set_cons_zero, List.set_cons_succ]
          first | (refine tws (i := 1) (v := ?_) hLst ?_ hHeld ?_; rotate_left; focus (intro w hSw; (try dsimp only at hSw); go_simp; (try with_reducible rfl); done)) | refine tns (i := 1) hLst hHeld ?_
          try simp only [Act.put, List.setIfInBounds_toArray, List.set_cons_zero, List.set_cons_succ]
          first | (refine tws (i := 2) (v := ?_) hLst ?_ hHeld ?_; rotate_left; focus (intro w hSw; (try dsimp only at hSw); go_simp; (try with_reducible rfl); done)) | refine tns (i := 2) hLst hHeld ?_
          try simp only [Act.put, List.setIfInBounds_toArray, List.set_cons_zero, List.set_cons_succ]
          first | (refine tws (i := 3) (v := ?_) hLst ?_ hHeld ?_; rotate_left; focus (intro w hSw; (try dsimp only at hSw); go_simp; (try with_reducible rfl); done)) | refine tns (i := 3) hLst hHeld ?_
          try simp only [Act.put, List.setIfInBounds_toArray, List.set_cons_zero, List.set_cons_succ]
          first | (refine tws (i := 4) (v := ?_) hLst ?_ hHeld ?_; rotate_left; focus (intro w hSw; (try dsimp only at hSw); go_simp; (try with_reducible rfl); done)) | refine tns (i := 4) hLst hHeld ?_
          try simp only [Act.put, List.setIfInBounds_toArray, List.set_cons_zero, List.set_cons_succ]
          first | (refine tws (i := 5) (v := ?_) hLst ?_ hHeld ?_; rotate_left; focus (intro w hSw; (try dsimp only at hSw); go_simp; (try with_reducible rfl); done)) | refine tns (i := 5) hLst hHeld ?_
          try simp only [Act.put, List.setIfInBounds_toArray, List.set_cons_zero, List.set_cons_succ]
          refine call_nexts (i := 6) (by kernel_rfl) (by rfl) ?_
          intro o ho K hK
          simp only [List.getElem?_toArray, List.getElem?_cons_succ, List.getElem?_cons_zero, Option.some.injEq] at ho
          subst ho
          first | ((refine step_app_ux rfl (.tmp 33) (.tmp 35) _ B (.slice a l.length c) (.slice (some ⟨w.heap.size + 1, 0, none⟩) 1 1) l [(0, x2)] rfl rfl hN1.row hux hlen hB1 ?_ rfl rfl; intro v2 w2 hs2 hf2 hst2; obtain ⟨a2, k2, rfl⟩ := hs2.any; have M2 := And.intro (hf2.cell (p := ⟨p, 0, none⟩) (fun e => hne e.symm) M1.1) (And.intro (hf2.cell (p := ⟨w.heap.size, 0, none⟩) (fun e => absurd (h.row.lt _ e.symm).2 (Nat.lt_irrefl _)) M1.2.1) (hf2.cell (p := ⟨w.heap.size, 1, none⟩) (fun e => absurd (h.row.lt _ e.symm).2 (Nat.lt_irrefl _)) M1.2.2)); have c2 := M2.1; have u2 := (hf2.frozen (p := ⟨p, 0, none⟩) (fun e => hne e.symm) hN1.lt).trans hN1.f0); refine hK.out _ _ ?_ (fun hHeld => ?_)) | (go_simp; first | (with_reducible refine hK.out _ _ ?_ (fun hHeld => ?_)) | (fail; refine hK.out _ _ ?_ (fun hHeld => ?_)))
          · first | exact M0 | exact M1 | exact M2
          clear hK K
          try simp only [Act.put, List.setIfInBounds_toArray, List.set_cons_zero, List.set_cons_succ]
          refine call_nexts (i := 7) (by kernel_rfl) (by rfl) ?_
          intro o ho K hK
          simp only [List.getElem?_toArray, List.getElem?_cons_succ, List.getElem?_cons_zero, Option.some.injEq] at ho
          subst ho
          (refine step_app_ux rfl (.tmp 33) (.tmp 35) _ B (.slice a l.length c) (.slice (some ⟨w.heap.size + 1, 0, none⟩) 1 1) l [(0, x2)] rfl rfl hN1.row hux hlen hB1 ?_ rfl rfl; intro v2 w2 hs2 hf2 hst2; obtain ⟨a2, k2, rfl⟩ := hs2.any; have M2 := And.intro (hf2.cell (p := ⟨p, 0, none⟩) (fun e => hne e.symm) M1.1) (And.intro (hf2.cell (p := ⟨w.heap.size, 0, none⟩) (fun e => absurd (h.row.lt _ e.symm).2 (Nat.lt_irrefl _)) M1.2.1) (hf2.cell (p := ⟨w.heap.size, 1, none⟩) (fun e => absurd (h.row.lt _ e.symm).2 (Nat.lt_irrefl _)) M1.2.2)); have c2 := M2.1; have u2 := (hf2.frozen (p := ⟨p, 0, none⟩) (fun e => hne e.symm) hN1.lt).trans hN1.f0); refine hK.out _ _ ?_ (fun hHeld => ?_)
          · first | exact M0 | exact M1 | exact M2
          clear hK K
          try simp only [Act.put, List.setIfInBounds_toArray, List.set_cons_zero, List.set_cons_succ]
          first | (refine tws (i := 8) (v := ?_) hLst ?_ hHeld ?_; rotate_left; focus (intro w hSw; (try dsimp only at hSw); go_simp; (try with_reducible rfl); done)) | refine tns (i := 8) hLst hHeld ?_
          try simp only [Act.put, List.setIfInBounds_toArray, List.set_cons_zero, List.set_cons_succ]
          first | (refine tws (i := 9) (v := ?_) hLst ?_ hHeld ?_; rotate_left; focus (intro w hSw; (try dsimp only at hSw); go_simp; (try with_reducible rfl); done)) | refine tns (i := 9) hLst hHeld ?_
          try simp only [Act.put, List.setIfInBounds_toArray, List.set_cons_zero, List.set_cons_succ]
          refine call_last (by kernel_rfl) (by kernel_rfl) (by rfl) ?_
          intro o ho K hK
          simp only [List.getElem?_toArray, List.getElem?_cons_succ, List.getElem?_cons_zero, Option.some.injEq] at ho
          subst ho
          first | ((refine step_app_ux rfl (.tmp 33) (.tmp 35) _ B (.slice a l.length c) (.slice (some ⟨w.heap.size + 1, 0, none⟩) 1 1) l [(0, x2)] rfl rfl hN1.row hux hlen hB1 ?_ rfl rfl; intro v2 w2 hs2 hf2 hst2; obtain ⟨a2, k2, rfl⟩ := hs2.any; have M2 := And.intro (hf2.cell (p := ⟨p, 0, none⟩) (fun e => hne e.symm) M1.1) (And.intro (hf2.cell (p := ⟨w.heap.size, 0, none⟩) (fun e => absurd (h.row.lt _ e.symm).2 (Nat.lt_irrefl _)) M1.2.1) (hf2.cell (p := ⟨w.heap.size, 1, none⟩) (fun e => absurd (h.row.lt _ e.symm).2 (Nat.lt_irrefl _)) M1.2.2)); have c2 := M2.1; have u2 := (hf2.frozen (p := ⟨p, 0, none⟩) (fun e => hne e.symm) hN1.lt).trans hN1.f0); refine hK.out _ _ ?_) | (go_simp; first | (with_reducible refine hK.out _ _ ?_) | (fail; refine hK.out _ _ ?_))
          clear hK K
          try simp only [Act.put, List.setIfInBounds_toArray, List.set_cons_zero, List.set_cons_succ]
          go_wp2
          go_ret
          have hs3 := hs2
          rw [List.length_append] at hs3 hst2
          exact ⟨rfl, NT.app hb1 hN1 (by decide) hs3 hf2 hst2⟩
        · go_enter Try.func8, Try.ntmps8
          go_wp2
          refine wp_region_drewS (S := (fun w' : World => w'.cell? ⟨p, 0, none⟩ = some (.slice a l.length c) ∧ w'.cell? ⟨w.heap.size, 0, none⟩ = some (.int .i64 1) ∧ w'.cell? ⟨w.heap.size, 1, none⟩ = some (.string x2))) 10 (by kernel_rfl) (by kernel_rfl) ?_ (fun hLst hHeld => ?_)
          · first | exact M0 | exact M1 | exact M2
          first | (refine tws (i := 0) (v := ?_) hLst ?_ hHeld ?_; rotate_left; focus (intro w hSw; (try dsimp only at hSw); go_simp; (try with_reducible rfl); done)) | refine tns (i := 0) hLst hHeld ?_
          try simp only [Act.put, List.setIfInBounds_toArray, List.set_cons_zero, List.set_cons_succ]
          first | (refine tws (i := 1) (v := ?_) hLst ?_ hHeld ?_; rotate_left; focus (intro w hSw; (try dsimp only at hSw); go_simp; (try with_reducible rfl); done)) | refine tns (i := 1) hLst hHeld ?_
          try simp only [Act.put, List.setIfInBounds_toArray, List.set_cons_zero, List.set_cons_succ]
          first | (refine tws (i := 2) (v := ?_) hLst ?_ hHeld ?_; rotate_left; focus (intro w hSw; (try dsimp only at hSw); go_simp; (try with_reducible rfl); done)) | refine tns (i := 2) hLst hHeld ?_
          try simp only [Act.put, List.setIfInBounds_toArray, List.set_cons_zero, List.set_cons_succ]
          first | (refine tws (i := 3) (v := ?_) hLst ?_ hHeld ?_; rotate_left; focus (intro w hSw; (try dsimp only at hSw); go_simp; (try with_reducible rfl); done)) | refine tns (i := 3) hLst hHeld ?_
          try simp only [Act.put, List.setIfInBounds_toArray, List.set_cons_zero, List.set_cons_succ]
          first | (refine tws (i := 4) (v := ?_) hLst ?_ hHeld ?_; rotate_left; focus (intro w hSw; (try dsimp only at hSw); go_simp; (try with_reducible rfl); done)) | refine tns (i := 4) hLst hHeld ?_
          try simp only [Act.put, List.setIfInBounds_toArray, List.set_cons_zero, List.set_cons_succ]
          first | (refine tws (i := 5) (v := ?_) hLst ?_ hHeld ?_; rotate_left; focus (intro w hSw; (try dsimp only at hSw); go_simp; (try with_reducible rfl); done)) | refine tns (i := 5) hLst hHeld ?_
          try simp only [Act.put, List.setIfInBounds_toArray, List.set_cons_zero, List.set_cons_succ]
          refine call_nexts (i := 6) (by kernel_rfl) (by rfl) ?_
          intro o ho K hK
          simp only [List.getElem?_toArray, List.getElem?_cons_succ, List.getElem?_cons_zero, Option.some.injEq] at ho
          subst ho
          first | ((refine step_app_ux rfl (.tmp 33) (.tmp 35) _ B (.slice a l.length c) (.slice (some ⟨w.heap.size + 1, 0, none⟩) 1 1) l [(1, x2)] rfl rfl hN1.row hux hlen hB1 ?_ rfl rfl; intro v2 w2 hs2 hf2 hst2; obtain ⟨a2, k2, rfl⟩ := hs2.any; have M2 := And.intro (hf2.cell (p := ⟨p, 0, none⟩) (fun e => hne e.symm) M1.1) (And.intro (hf2.cell (p := ⟨w.heap.size, 0, none⟩) (fun e => absurd (h.row.lt _ e.symm).2 (Nat.lt_irrefl _)) M1.2.1) (hf2.cell (p := ⟨w.heap.size, 1, none⟩) (fun e => absurd (h.row.lt _ e.symm).2 (Nat.lt_irrefl _)) M1.2.2)); have c2 := M2.1; have u2 := (hf2.frozen (p := ⟨p, 0, none⟩) (fun e => hne e.symm) hN1.lt).trans hN1.f0); refine hK.out _ _ ?_ (fun hHeld => ?_)) | (go_simp; first | (with_reducible refine hK.out _ _ ?_ (fun hHeld => ?_)) | (fail; refine hK.out _ _ ?_ (fun hHeld => ?_)))
          · first | exact M0 | exact M1 | exact M2
          clear hK K
          try simp only [Act.put, List.setIfInBounds_toArray, List.set_cons_zero, List.set_cons_succ]
          refine call_nexts (i := 7) (by kernel_rfl) (by rfl) ?_
          intro o ho K hK
          simp only [List.getElem?_toArray, List.getElem?_cons_succ, List.getElem?_cons_zero, Option.some.injEq] at ho
          subst ho
          (refine step_app_ux rfl (.tmp 33) (.tmp 35) _ B (.slice a l.length c) (.slice (some ⟨w.heap.size + 1, 0, none⟩) 1 1) l [(1, x2)] rfl rfl hN1.row hux hlen hB1 ?_ rfl rfl; intro v2 w2 hs2 hf2 hst2; obtain ⟨a2, k2, rfl⟩ := hs2.any; have M2 := And.intro (hf2.cell (p := ⟨p, 0, none⟩) (fun e => hne e.symm) M1.1) (And.intro (hf2.cell (p := ⟨w.heap.size, 0, none⟩) (fun e => absurd (h.row.lt _ e.symm).2 (Nat.lt_irrefl _)) M1.2.1) (hf2.cell (p := ⟨w.heap.size, 1, none⟩) (fun e => absurd (h.row.lt _ e.symm).2 (Nat.lt_irrefl _)) M1.2.2)); have c2 := M2.1; have u2 := (hf2.frozen (p := ⟨p, 0, none⟩) (fun e => hne e.symm) hN1.lt).trans hN1.f0); refine hK.out _ _ ?_ (fun hHeld => ?_)
          · first | exact M0 | exact M1 | exact M2
          clear hK K
          try simp only [Act.put, List.setIfInBounds_toArray, List.set_cons_zero, List.set_cons_succ]
          first | (refine tws (i := 8) (v := ?_) hLst ?_ hHeld ?_; rotate_left; focus (intro w hSw; (try dsimp only at hSw); go_simp; (try with_reducible rfl); done)) | refine tns (i := 8) hLst hHeld ?_
          try simp only [Act.put, List.setIfInBounds_toArray, List.set_cons_zero, List.set_cons_succ]
          first | (refine tws (i := 9) (v := ?_) hLst ?_ hHeld ?_; rotate_left; focus (intro w hSw; (try dsimp only at hSw); go_simp; (try with_reducible rfl); done)) | refine tns (i := 9) hLst hHeld ?_
          try simp only [Act.put, List.setIfInBounds_toArray, List.set_cons_zero, List.set_cons_succ]
          refine call_last (by kernel_rfl) (by kernel_rfl) (by rfl) ?_
          intro o ho K hK
          simp only [List.getElem?_toArray, List.getElem?_cons_succ, List.getElem?_cons_zero, Option.some.injEq] at ho
          subst ho
          first | ((refine step_app_ux rfl (.tmp 33) (.tmp 35) _ B (.slice a l.length c) (.slice (some ⟨w.heap.size + 1, 0, none⟩) 1 1) l [(1, x2)] rfl rfl hN1.row hux hlen hB1 ?_ rfl rfl; intro v2 w2 hs2 hf2 hst2; obtain ⟨a2, k2, rfl⟩ := hs2.any; have M2 := And.intro (hf2.cell (p := ⟨p, 0, none⟩) (fun e => hne e.symm) M1.1) (And.intro (hf2.cell (p := ⟨w.heap.size, 0, none⟩) (fun e => absurd (h.row.lt _ e.symm).2 (Nat.lt_irrefl _)) M1.2.1) (hf2.cell (p := ⟨w.heap.size, 1, none⟩) (fun e => absurd (h.row.lt _ e.symm).2 (Nat.lt_irrefl _)) M1.2.2)); have c2 := M2.1; have u2 := (hf2.frozen (p := ⟨p, 0, none⟩) (fun e => hne e.symm) hN1.lt).trans hN1.f0); refine hK.out _ _ ?_) | (go_simp; first | (with_reducible refine hK.out _ _ ?_) | (fail; refine hK.out _ _ ?_))
          clear hK K
          try simp only [Act.put, List.setIfInBounds_toArray, List.set_cons_zero, List.set_cons_succ]
          go_wp2
          go_ret
          have hs3 := hs2
          rw [List.length_append] at hs3 hst2
          exact ⟨rfl, NT.app hb1 hN1 (by decide) hs3 hf2 hst2⟩
def plc (n : Int) (m : Nat) : Nat := (wrap64 ((IntKind.u64.wrap n).tmod (m : Int))).toNat
theorem plc_eq (n : Int) (m : Nat) (h0 : 0 < m) (hm : m ≤ 3000) : wrap64 ((IntKind.u64.wrap n).tmod (m : Int)) = (plc n m : Int) ∧ plc n m < m := by
  have key : ∃ k : Nat, k < m ∧ wrap64 ((IntKind.u64.wrap n).tmod (m : Int)) = (k : Int) := by
    rw [IntKind.wrap_u64, Int.tmod_eq_emod_of_nonneg (by omega)]
    have h1 : 0 ≤ n % 18446744073709551616 % (m : Int) := Int.emod_nonneg _ (by omega)
    have h2 : n % 18446744073709551616 % (m : Int) < (m : Int) := Int.emod_lt_of_pos _ (by omega)
    refine ⟨(n % 18446744073709551616 % (m : Int)).toNat, by omega, ?_⟩
    rw [IntWalk.wrap64_in _ ⟨by omega, by omega⟩]; omega
  obtain ⟨k, hk, e⟩ := key
  unfold plc
  rw [e]
  simp; exact hk
theorem nlook1_any (pb xb p B k : Nat) (v : Value) (l : List U2) (x y : U2) (w : World) (h : NT 44 w p B v l) (hp : w.cell? ⟨pb, 0, none⟩ = some (.pointer (some ⟨p, 0, none⟩))) (hx : w.heap[xb]? = some (.cells #[.int .i64 y.1, .string y.2] 32 (0, 0))) (hk : l[k]? = some x) (hm : l.length ≤ 1000) :
    Calls Try.prog 25 #[.int .i64 k, .pointer (some ⟨pb, 0, none⟩), .pointer (some ⟨xb, 0, none⟩)] w fun e w' => e = .returned (.tuple #[]) ∧ w' = (w.setCell ⟨xb, 0, none⟩ (.int .i64 x.1)).setCell ⟨xb, 1, none⟩ (.string x.2) := by
  have hlt := (List.getElem?_eq_some_iff.1 hk).1
  obtain ⟨g, c, rfl, _, _, _⟩ := h.row.slice (by rintro rfl; simp at hlt)
  obtain ⟨c1, c2⟩ := h.row.at k x hk
  have h0 := h.c0
  have x0 : w.cell? ⟨xb, 0, none⟩ = some (.int .i64 y.1) := by rw [cell_of_row w xb 0 _ _ _ hx]; rfl
  have x1 : w.cell? ⟨xb, 1, none⟩ = some (.string y.2) := by rw [cell_of_row w xb 1 _ _ _ hx]; rfl
  have f0 : w.frozen? ⟨xb, 0, none⟩ = false := frozen_of_row w xb 0 _ _ hx
  have f1 : w.frozen? ⟨xb, 1, none⟩ = false := frozen_of_row w xb 1 _ _ hx
  have i1 : (0 : Int) ≤ (k : Int) := by omega
  have i2 : (k : Int) < (l.length : Int) := by omega
  go_enter Try.func25, Try.ntmps25
  go_wp2
  go_end0
  exact ⟨rfl, rfl⟩
theorem look_none (n : Int) (w : World) : Calls Try.prog 17 #[.pointer none, .int .i64 n] w fun e w' => e = .returned (.tuple #[.agg #[.int .i64 0, .string ⟨#[]⟩], .bool false]) ∧ Below w.heap.size w w' := by
  go_enter Try.func17, Try.ntmps17
  go_wp2
  go_returns
  exact ⟨rfl, bt (alb w _) (alb _ _)⟩
theorem look_zero (p B : Nat) (v : Value) (n : Int) (w : World) (h : NT 44 w p B v []) : Calls Try.prog 17 #[.pointer (some ⟨p, 0, none⟩), .int .i64 n] w fun e w' => e = .returned (.tuple #[.agg #[.int .i64 0, .string ⟨#[]⟩], .bool false]) ∧ Below w.heap.size w w' := by
  obtain ⟨a, c, rfl⟩ := h.row.any
  have hW := h.below (bt (alb w (.cells #[.pointer (some ⟨p, 0, none⟩)] 25)) (alb _ (.cells #[.int .i64 0, .string ⟨#[]⟩] 32)))
  have h0 := hW.c0
  go_enter Try.func17, Try.ntmps17
  go_wp2
  go_returns
  exact ⟨rfl, bt (alb w _) (alb _ _)⟩
theorem look_any (p B : Nat) (v : Value) (l : List U2) (n : Int) (x : U2) (w : World) (h : NT 44 w p B v l) (hm : l.length ≤ 1000) (hx : l[plc n l.length]? = some x) : Calls Try.prog 17 #[.pointer (some ⟨p, 0, none⟩), .int .i64 n] w fun e w' => e = .returned (.tuple #[.agg #[.int .i64 x.1, .string x.2], .bool true]) ∧ Below w.heap.size w w' := by
  have hl0 : 0 < l.length := by have := (List.getElem?_eq_some_iff.1 hx).1; omega
  obtain ⟨hpl, hplt⟩ := plc_eq n l.length hl0 (by omega)
  have hW := h.below (bt (alb w (.cells #[.pointer (some ⟨p, 0, none⟩)] 25)) (alb _ (.cells #[.int .i64 0, .string ⟨#[]⟩] 32)))
  have h0 := hW.c0
  obtain ⟨a, c, rfl⟩ := h.row.any
  have hbx : ((w.alloc (.cells #[.pointer (some ⟨p, 0, none⟩)] 25)).alloc (.cells #[.int .i64 0, .string ⟨#[]⟩] 32)).heap[w.heap.size + 1]? = some (.cells #[.int .i64 0, .string ⟨#[]⟩] 32 (0, 0)) := by
    have := heap_alloc_new (w.alloc (.cells #[.pointer (some ⟨p, 0, none⟩)] 25)) (.cells #[.int .i64 0, .string ⟨#[]⟩] 32)
    rwa [World.size_alloc] at this
  have h1 := nlook1_any w.heap.size (w.heap.size + 1) p B (plc n l.length) _ l x (0, ⟨#[]⟩) _ hW (by simp [go_sem]) hbx hx hm
  have hz : ((l.length : Int) == 0) = false := beq_eq_false_iff_ne.2 (by omega)
  have hz2 : (l.length == 0) = false := beq_eq_false_iff_ne.2 (by omega)
  have hne : ¬ (l.length : Int) = 0 := by omega
  have hw1 : IntKind.u64.wrap (l.length : Int) = (l.length : Int) := by rw [IntKind.wrap_u64]; omega
  go_enter Try.func17, Try.ntmps17
  go_wp2_with (first | (go_at_call 25; rw [hpl]; (with_reducible refine h1.mono ?_); rintro e w3 ⟨rfl, rfl⟩) | go_in)
  go_returns
  exact ⟨rfl, bt (alb w _) (alb _ _)⟩
end Go.Proofs.Ytfomeiikgdiefaa
