/-
  Frames under way (chapter 26): one that arrives, one that is lost, one once more.
-/
import Derived.Test.YtfomeiikgdiefaaNet2
namespace Go.Proofs.Ytfomeiikgdiefaa
open Go.RowKit
set_option linter.unusedVariables false
set_option linter.unusedSimpArgs false

/-- what stands behind the taker -/
structure TK (w : World) (p xb B : Nat) (v : Value) (l' : List U2) (x : U2) (w' : World) : Prop where
  nt : ∃ v', NT 44 w' p B v' l' ∧ v'.ownBlock = v.ownBlock
  frm : Frm (fun j => j = p ∨ j = xb ∨ some j = v.ownBlock) w w'
  box : w'.heap[xb]? = some (.cells #[.int .i64 x.1, .string x.2] 32 (0, 0))
set_option maxHeartbeats 3200000 in
theorem ntake1_any (pb xb p B k : Nat) (v : Value) (l : List U2) (x y : U2) (w : World) (h : NT 44 w p B v l) (hp : w.cell? ⟨pb, 0, none⟩ = some (.pointer (some ⟨p, 0, none⟩))) (hx : w.heap[xb]? = some (.cells #[.int .i64 y.1, .string y.2] 32 (0, 0))) (hk : l[k]? = some x) (hm : l.length ≤ 1000)
    (hxp : xb ≠ p) (hxv : v.ownBlock ≠ some xb) (hpx : pb ≠ xb) (hpp : pb ≠ p) (hpv : v.ownBlock ≠ some pb) :
    Calls Try.prog 21 #[.int .i64 k, .pointer (some ⟨pb, 0, none⟩), .pointer (some ⟨xb, 0, none⟩)] w fun e w' => e = .returned (.tuple #[]) ∧ TK w p xb B v (l.eraseIdx k) x w' := by
  have hlt := (List.getElem?_eq_some_iff.1 hk).1
  obtain ⟨g, c, rfl, _, _, _⟩ := h.row.slice (by rintro rfl; simp at hlt)
  have hgx : g ≠ xb := fun e => hxv (by rw [e]; rfl)
  have hgp : g ≠ p := fun e => h.ne (by decide) (by rw [e]; rfl)
  have hgb : g ≠ pb := fun e => hpv (by rw [e]; rfl)
  obtain ⟨c1, c2⟩ := h.row.at k x hk
  have h0 := h.c0
  have x0 : w.cell? ⟨xb, 0, none⟩ = some (.int .i64 y.1) := by rw [cell_of_row w xb 0 _ _ _ hx]; rfl
  have x1 : w.cell? ⟨xb, 1, none⟩ = some (.string y.2) := by rw [cell_of_row w xb 1 _ _ _ hx]; rfl
  have f0 : w.frozen? ⟨xb, 0, none⟩ = false := frozen_of_row w xb 0 _ _ hx
  have f1 : w.frozen? ⟨xb, 1, none⟩ = false := frozen_of_row w xb 1 _ _ hx
  have i1 : (0 : Int) ≤ (k : Int) := by omega
  have i2 : (k : Int) < (l.length : Int) := by omega
  have hF1 : Frm (· = xb) w ((w.setCell ⟨xb, 0, none⟩ (.int .i64 x.1)).setCell ⟨xb, 1, none⟩ (.string x.2)) := (Frm.one w xb 0 _).trans (Frm.one _ xb 1 _)
  have hN1 := h.frm hF1.drew (fun e => hxp e.symm) (fun g' hg' e => hxv (by rw [hg', e]))
  have hbx1 : ((w.setCell ⟨xb, 0, none⟩ (.int .i64 x.1)).setCell ⟨xb, 1, none⟩ (.string x.2)).drew.heap[xb]? = some (.cells #[.int .i64 x.1, .string x.2] 32 (0, 0)) := heap_setCell_same _ xb 1 _ _ _ (heap_setCell_same w xb 0 _ _ _ hx)
  have hd := ndelete_any B g c k l _ hN1.row hlt hm
  have M0 : ((w.setCell ⟨xb, 0, none⟩ (.int .i64 x.1)).setCell ⟨xb, 1, none⟩ (.string x.2)).drew.cell? ⟨pb, 0, none⟩ = some (.pointer (some ⟨p, 0, none⟩)) ∧ ((w.setCell ⟨xb, 0, none⟩ (.int .i64 x.1)).setCell ⟨xb, 1, none⟩ (.string x.2)).drew.cell? ⟨p, 0, none⟩ = some (.slice (some ⟨g, 0, none⟩) l.length c) := ⟨hF1.drew.cell (p := ⟨pb, 0, none⟩) hpx hp, hN1.c0⟩
  have hw1 : IntKind.i64.wrap ((k : Int) + 1) = (k : Int) + 1 := IntWalk.i64_in _ (by omega)
  have hF1d := hF1.drew
  go_enter Try.func21, Try.ntmps21
  go_wp2_with fail
  generalize hWW : (w.setCell ⟨xb, 0, none⟩ (.int .i64 x.1)).setCell ⟨xb, 1, none⟩ (.string x.2) = W at *
  have hWW := Lib.hid hWW
  refine wp_region_drewS (S := (fun w' : World => w'.cell? ⟨pb, 0, none⟩ = some (.pointer (some ⟨p, 0, none⟩)) ∧ w'.cell? ⟨p, 0, none⟩ = some (.slice (some ⟨g, 0, none⟩) l.length c))) 11 (by kernel_rfl) (by kernel_rfl) ?_ (fun hLst hHeld => ?_)
  · first | exact M0 | exact M2
  first | (refine tws (i := 0) (v := ?_) hLst ?_ hHeld ?_; rotate_left; focus (intro w hSw; (try dsimp only at hSw); go_simp; (try with_reducible rfl); done)) | refine tns (i := 0) hLst hHeld ?_
  try simp only [Act.put, List.setIfInBounds_toArray, List.set_cons_zero, List.set_cons_succ]
  first | (refine tws (i := 1) (v := ?_) hLst ?_ hHeld ?_; rotate_left; focus (intro w hSw; (try dsimp only at hSw); go_simp; (try with_reducible rfl); done)) | refine tns (i := 1) hLst hHeld ?_
  try simp only [Act.put, List.setIfInBounds_toArray, List.set_cons_zero, List.set_cons_succ]
  first | (refine tws (i := 2) (v := ?_) hLst ?_ hHeld ?_; rotate_left; focus (intro w hSw; (try dsimp only at hSw); go_simp; (try with_reducible rfl); done)) | refine tns (i := 2) hLst hHeld ?_
  try simp only [Act.put, List.setIfInBounds_toArray, List.set_cons_zero, List.set_cons_succ]
  first | (refine tws (i := 3) (v := ?_) hLst ?_ hHeld ?_; rotate_left; focus (intro w hSw; (try dsimp only at hSw); go_simp; (try with_reducible rfl); done)) | refine tns (i := 3) hLst hHeld ?_
  try simp only [Act.put, List.setIfInBounds_toArray, List.set_cons_zero, List.set_cons_succ]
  first | (refine tws (i := 4) (v := ?_) hLst ?_ hHeld ?_; rotate_left; focus (intro w hSw; (try dsimp only at hSw); go_simp; (try with_reducible rfl); done)) | refine tns (i := 4) hLst hHeld ?_
  try simp only [Act.put, List.setIfInBounds_toArray, List.set_cons_zero, List.set_cons_succ]
  first | (refine tws (i := 5) (v := ?_) hLst ?_ hHeld ?_; rotate_left; focus (intro w hSw; (try dsimp only at hSw); go_simp; (try with_reducible rfl); done)) | refine tns (i := 5) hLst hHeld ?_
  try simp only [Act.put, List.setIfInBounds_toArray, List.set_cons_zero, List.set_cons_succ]
  first | (refine tws (i := 6) (v := ?_) hLst ?_ hHeld ?_; rotate_left; focus (intro w hSw; (try dsimp only at hSw); go_simp; (try with_reducible rfl); done)) | refine tns (i := 6) hLst hHeld ?_
  try simp only [Act.put, List.setIfInBounds_toArray, List.set_cons_zero, List.set_cons_succ]
  first | (refine tws (i := 7) (v := ?_) hLst ?_ hHeld ?_; rotate_left; focus (intro w hSw; (try dsimp only at hSw); go_simp; (try with_reducible rfl); done)) | refine tns (i := 7) hLst hHeld ?_
  try simp only [Act.put, List.setIfInBounds_toArray, List.set_cons_zero, List.set_cons_succ]
  refine call_nexts (i := 8) (by kernel_rfl) (by rfl) ?_
  intro o ho K hK
  simp only [List.getElem?_toArray, List.getElem?_cons_succ, List.getElem?_cons_zero, Option.some.injEq] at ho
  subst ho
  first | (fail; refine hK.out _ _ ?_ (fun hHeld => ?_)) | (go_simp; first | (with_reducible refine hK.out _ _ ?_ (fun hHeld => ?_)) | ((go_at_call 22; (with_reducible refine hd.mono ?_); rintro e w2 ⟨rfl, hr2, hf2⟩; have M2 := And.intro (hf2.cell (p := ⟨pb, 0, none⟩) (fun e => hgb e.symm) M0.1) (hf2.cell (p := ⟨p, 0, none⟩) (fun e => hgp e.symm) M0.2); have m2 := M2.2; have z2 := (hf2.frozen (p := ⟨p, 0, none⟩) (fun e => hgp e.symm) hN1.lt).trans hN1.f0); refine hK.out _ _ ?_ (fun hHeld => ?_)))
  · first | exact M0 | exact M2
  clear hK K
  try simp only [Act.put, List.setIfInBounds_toArray, List.set_cons_zero, List.set_cons_succ]
  first | (refine tws (i := 9) (v := ?_) hLst ?_ hHeld ?_; rotate_left; focus (intro w hSw; (try dsimp only at hSw); go_simp; (try with_reducible rfl); done)) | refine tns (i := 9) hLst hHeld ?_
  try simp only [Act.put, List.setIfInBounds_toArray, List.set_cons_zero, List.set_cons_succ]
  first | (refine tws (i := 10) (v := ?_) hLst ?_ hHeld ?_; rotate_left; focus (intro w hSw; (try dsimp only at hSw); go_simp; (try with_reducible rfl); done)) | refine tns (i := 10) hLst hHeld ?_
  try simp only [Act.put, List.setIfInBounds_toArray, List.set_cons_zero, List.set_cons_succ]
  refine call_last (by kernel_rfl) (by kernel_rfl) (by rfl) ?_
  intro o ho K hK
  simp only [List.getElem?_toArray, List.getElem?_cons_succ, List.getElem?_cons_zero, Option.some.injEq] at ho
  subst ho
  first | (fail; refine hK.out _ _ ?_) | (go_simp; first | (with_reducible refine hK.out _ _ ?_) | ((go_at_call 22; (with_reducible refine hd.mono ?_); rintro e w2 ⟨rfl, hr2, hf2⟩; have M2 := And.intro (hf2.cell (p := ⟨pb, 0, none⟩) (fun e => hgb e.symm) M0.1) (hf2.cell (p := ⟨p, 0, none⟩) (fun e => hgp e.symm) M0.2); have m2 := M2.2; have z2 := (hf2.frozen (p := ⟨p, 0, none⟩) (fun e => hgp e.symm) hN1.lt).trans hN1.f0); refine hK.out _ _ ?_))
  clear hK K
  try simp only [Act.put, List.setIfInBounds_toArray, List.set_cons_zero, List.set_cons_succ]
  go_wp2
  go_end0
  have hb2 := (hf2.block p hN1.lt (fun e => hgp e.symm)).trans hN1.box
  refine ⟨rfl, ⟨_, NT.put hb2 hr2 (by decide), rfl⟩, ?_, ?_⟩
  · exact ((hF1d.mono fun _ _ e => .inr (.inl e)).trans (hf2.mono fun j _ e => .inr (.inr (by rw [e]; rfl)))).trans ((Frm.one w2 p 0 _).mono fun _ _ e => .inl e)
  · have hxl : xb < W.drew.heap.size := (Array.getElem?_eq_some_iff.1 hbx1).1
    exact ((Below.heap_setCell _ _ _ _ hxp).trans (hf2.block xb hxl (fun e => hgx e.symm))).trans hbx1
def NVal (x : U2) : Value := .agg #[.int .i64 x.1, .string x.2]
theorem take_none (n : Int) (w : World) : Calls Try.prog 10 #[.pointer none, .int .i64 n] w fun e w' => e = .returned (.tuple #[.agg #[.int .i64 0, .string ⟨#[]⟩], .bool false]) ∧ Below w.heap.size w w' := by
  go_enter Try.func10, Try.ntmps10
  go_wp2
  go_returns
  exact ⟨rfl, bt (alb w _) (alb _ _)⟩
theorem take_zero (p B : Nat) (v : Value) (n : Int) (w : World) (h : NT 44 w p B v []) : Calls Try.prog 10 #[.pointer (some ⟨p, 0, none⟩), .int .i64 n] w fun e w' => e = .returned (.tuple #[.agg #[.int .i64 0, .string ⟨#[]⟩], .bool false]) ∧ Below w.heap.size w w' := by
  obtain ⟨a, c, rfl⟩ := h.row.any
  have hW := h.below (bt (alb w (.cells #[.pointer (some ⟨p, 0, none⟩)] 25)) (alb _ (.cells #[.int .i64 0, .string ⟨#[]⟩] 32)))
  have h0 := hW.c0
  go_enter Try.func10, Try.ntmps10
  go_wp2
  go_returns
  exact ⟨rfl, bt (alb w _) (alb _ _)⟩
set_option maxHeartbeats 3200000 in
theorem take_any (p B : Nat) (v : Value) (l : List U2) (n : Int) (x : U2) (w : World) (h : NT 44 w p B v l) (hm : l.length ≤ 1000) (hx : l[plc n l.length]? = some x) : Calls Try.prog 10 #[.pointer (some ⟨p, 0, none⟩), .int .i64 n] w
    (NChg 44 w p B v (l.eraseIdx (plc n l.length)) (.tuple #[.agg #[.int .i64 x.1, .string x.2], .bool true])) := by
  have hl0 : 0 < l.length := by have := (List.getElem?_eq_some_iff.1 hx).1; omega
  obtain ⟨hpl, hplt⟩ := plc_eq n l.length hl0 (by omega)
  have hb0 := bt (alb w (.cells #[.pointer (some ⟨p, 0, none⟩)] 25)) (alb _ (.cells #[.int .i64 0, .string ⟨#[]⟩] 32))
  have hW := h.below hb0
  have h0 := hW.c0
  have hplt' := h.lt
  have hrl := h.row.lt
  obtain ⟨a, c, hv⟩ := h.row.any
  have hbx : ((w.alloc (.cells #[.pointer (some ⟨p, 0, none⟩)] 25)).alloc (.cells #[.int .i64 0, .string ⟨#[]⟩] 32)).heap[w.heap.size + 1]? = some (.cells #[.int .i64 0, .string ⟨#[]⟩] 32 (0, 0)) := by
    have := heap_alloc_new (w.alloc (.cells #[.pointer (some ⟨p, 0, none⟩)] 25)) (.cells #[.int .i64 0, .string ⟨#[]⟩] 32)
    rwa [World.size_alloc] at this
  have h1 := ntake1_any w.heap.size (w.heap.size + 1) p B (plc n l.length) v l x (0, ⟨#[]⟩) _ hW (by simp [go_sem]) hbx hx hm (by omega) (fun e => by have := (hrl _ e).2; omega) (by omega) (by omega) (fun e => by have := (hrl _ e).2; omega)
  have hz : ((l.length : Int) == 0) = false := beq_eq_false_iff_ne.2 (by omega)
  have hz2 : (l.length == 0) = false := beq_eq_false_iff_ne.2 (by omega)
  have hne : ¬ (l.length : Int) = 0 := by omega
  have hw1 : IntKind.u64.wrap (l.length : Int) = (l.length : Int) := by rw [IntKind.wrap_u64]; omega
  rw [hv] at h0
  have hv := Lib.hid hv
  go_enter Try.func10, Try.ntmps10
  go_wp2_with (first | (go_at_call 21; rw [hpl]; (with_reducible refine h1.mono ?_); rintro e w3 ⟨rfl, hT⟩; have y0 : w3.cell? ⟨w.heap.size + 1, 0, none⟩ = some (.int .i64 x.1) := (cell_of_row w3 (w.heap.size + 1) 0 _ _ _ hT.box); have y1 : w3.cell? ⟨w.heap.size + 1, 1, none⟩ = some (.string x.2) := (cell_of_row w3 (w.heap.size + 1) 1 _ _ _ hT.box); have g0 : w3.frozen? ⟨w.heap.size + 1, 0, none⟩ = false := frozen_of_row w3 (w.heap.size + 1) 0 _ _ hT.box; have g1 : w3.frozen? ⟨w.heap.size + 1, 1, none⟩ = false := frozen_of_row w3 (w.heap.size + 1) 1 _ _ hT.box; have s0 := cell_set_same (v := .int .i64 x.1) y0; have s1 := cell_set_same (v := .string x.2) (cell_set_off (v := .int .i64 x.1) y1 (by decide : (0 : Nat) ≠ 1))) | go_in)
  refine bodyPost_ret (v := .tuple #[.agg #[.int .i64 x.1, .string x.2], .bool true]) (by simp [results, Try.results10, go_sem, s0, s1, y0, y1]) rfl ?_
  obtain ⟨v', hn', hv'⟩ := hT.nt
  have hF2 : Frm (· = w.heap.size + 1) w3 ((w3.setCell ⟨w.heap.size + 1, 0, none⟩ (.int .i64 x.1)).setCell ⟨w.heap.size + 1, 1, none⟩ (.string x.2)) := (Frm.one w3 _ 0 _).trans (Frm.one _ _ 1 _)
  have hall : Frm (fun k => k = p ∨ some k = v.ownBlock) w ((w3.setCell ⟨w.heap.size + 1, 0, none⟩ (.int .i64 x.1)).setCell ⟨w.heap.size + 1, 1, none⟩ (.string x.2)) := by
    have h2 := ((Frm.ofBelow (S := fun j => j = p ∨ j = w.heap.size + 1 ∨ some j = v.ownBlock) hb0).trans hT.frm).trans (hF2.mono fun j _ e => .inr (.inl e))
    exact h2.mono fun j hj e => by
      rcases e with e | e | e
      · exact .inl e
      · omega
      · exact .inr e
  refine ⟨rfl, v', hn'.frm hF2 (by omega) ?_, .inl hv', hall⟩
  intro g hg e
  rw [hv'] at hg
  have := (hrl g hg).2
  omega
theorem chg_below {T : TypeId} {w w1 w2 : World} {p B : Nat} {v : Value} {l : List U2} (h : ∃ v', NT T w1 p B v' l ∧ Stay w v v' ∧ Frm (fun k => k = p ∨ some k = v.ownBlock) w w1) (hb : Below w1.heap.size w1 w2) : ∃ v', NT T w2 p B v' l ∧ Stay w v v' ∧ Frm (fun k => k = p ∨ some k = v.ownBlock) w w2 := by
  obtain ⟨v', h1, h2, h3⟩ := h
  exact ⟨v', h1.below hb, h2, h3.below hb⟩
theorem chg_pre {T : TypeId} {w w1 w2 : World} {p B : Nat} {v : Value} {l : List U2} (hb : Below w.heap.size w w1) (h : ∃ v', NT T w2 p B v' l ∧ Stay w1 v v' ∧ Frm (fun k => k = p ∨ some k = v.ownBlock) w1 w2) : ∃ v', NT T w2 p B v' l ∧ Stay w v v' ∧ Frm (fun k => k = p ∨ some k = v.ownBlock) w w2 := by
  obtain ⟨v', h1, h2, h3⟩ := h
  exact ⟨v', h1, h2.mono hb.size, (Frm.ofBelow hb).trans h3⟩
theorem lose_none (n : Int) (w : World) : Calls Try.prog 12 #[.pointer none, .int .i64 n] w fun e w' => e = .returned (.bool false) ∧ Below w.heap.size w w' := by
  have h1 := take_none n w
  go_enter Try.func12, Try.ntmps12
  go_wp2_with (go_at_call 10; (with_reducible refine h1.mono ?_); rintro e w1 ⟨rfl, hb⟩)
  go_ret
  exact ⟨rfl, bt hb (alb _ _)⟩
theorem lose_zero (p B : Nat) (v : Value) (n : Int) (w : World) (h : NT 44 w p B v []) : Calls Try.prog 12 #[.pointer (some ⟨p, 0, none⟩), .int .i64 n] w fun e w' => e = .returned (.bool false) ∧ Below w.heap.size w w' := by
  have h1 := take_zero p B v n w h
  go_enter Try.func12, Try.ntmps12
  go_wp2_with (go_at_call 10; (with_reducible refine h1.mono ?_); rintro e w1 ⟨rfl, hb⟩)
  go_ret
  exact ⟨rfl, bt hb (alb _ _)⟩
theorem lose_any (p B : Nat) (v : Value) (l : List U2) (n : Int) (x : U2) (w : World) (h : NT 44 w p B v l) (hm : l.length ≤ 1000) (hx : l[plc n l.length]? = some x) : Calls Try.prog 12 #[.pointer (some ⟨p, 0, none⟩), .int .i64 n] w
    (NChg 44 w p B v (l.eraseIdx (plc n l.length)) (.bool true)) := by
  have h1 := take_any p B v l n x w h hm hx
  go_enter Try.func12, Try.ntmps12
  go_wp2_with (go_at_call 10; (with_reducible refine h1.mono ?_); rintro e w1 ⟨rfl, hb⟩)
  go_ret
  exact ⟨rfl, chg_below hb (alb _ _)⟩
theorem double_none (n : Int) (w : World) : Calls Try.prog 13 #[.pointer none, .int .i64 n] w fun e w' => e = .returned (.bool false) ∧ Below w.heap.size w w' := by
  have h1 := look_none n w
  go_enter Try.func13, Try.ntmps13
  go_wp2_with (go_at_call 17; (with_reducible refine h1.mono ?_); rintro e w1 ⟨rfl, hb⟩)
  go_ret
  exact ⟨rfl, bt hb (alb _ _)⟩
theorem double_zero (p B : Nat) (v : Value) (n : Int) (w : World) (h : NT 44 w p B v []) : Calls Try.prog 13 #[.pointer (some ⟨p, 0, none⟩), .int .i64 n] w fun e w' => e = .returned (.bool false) ∧ Below w.heap.size w w' := by
  have h1 := look_zero p B v n w h
  go_enter Try.func13, Try.ntmps13
  go_wp2_with (go_at_call 17; (with_reducible refine h1.mono ?_); rintro e w1 ⟨rfl, hb⟩)
  go_ret
  exact ⟨rfl, bt hb (alb _ _)⟩
theorem double_any (p B : Nat) (v : Value) (l : List U2) (n : Int) (x : U2) (w : World) (h : NT 44 w p B v l) (hB : B ≤ w.heap.size) (hm : l.length ≤ 1000) (hx : l[plc n l.length]? = some x) : Calls Try.prog 13 #[.pointer (some ⟨p, 0, none⟩), .int .i64 n] w
    (NChg 44 w p B v (putL x l) (.bool (putE x l.length == 0))) := by
  have h1 := look_any p B v l n x w h hm hx
  go_enter Try.func13, Try.ntmps13
  go_wp2_with (first | (go_at_call 17; (with_reducible refine h1.mono ?_); rintro e w1 ⟨rfl, hb⟩) | (go_at_call 8; (with_reducible refine (nput_any p B v l x.1 x.2 _ (h.below (bt hb (alb _ _))) (Nat.le_trans hB (bt hb (alb w1 (.cells #[.int .i64 x.1, .string x.2] 32))).size) hm).mono ?_); rintro e w2 ⟨rfl, hT⟩))
  go_ret
  exact ⟨rfl, chg_pre (bt hb (alb _ _)) hT⟩
end Go.Proofs.Ytfomeiikgdiefaa
