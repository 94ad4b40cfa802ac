/-
  States and conflicts in words (chapter 34): the law's walk.
-/
import Derived.Test.YtaddbljdheafaaaDoorRepStates
import Derived.Test.YtaddbljdheafaaaDoorGRow
namespace Go.Proofs.YtaddbljdheafaaaDoor
open Go.RowKit
set_option linter.unusedVariables false
set_option linter.unusedSimpArgs false
set_option maxRecDepth 20000

def LRel (w : World) (l : List Pq) (vo vi : Value) (wr : World) : Prop := ∃ k : Nat, k ≤ l.length ∧ vi = .int .i64 k ∧ Hid (Strs wr w.heap.size vo (cfL (l.take k))) ∧ Hid (Below w.heap.size w wr)
def SX (W : World) (g o K : Nat) (y : Pq) : Prop := W.cell? ⟨g, o, none⟩ = some (.int .i64 y.x) ∧ H10 W K 1 0 0 ⟨#[]⟩ y.p y.q y.e y.r y.s y.f
theorem SX.below {W W' : World} {g o K : Nat} {y : Pq} (h : SX W g o K y) (hb : Below W.heap.size W W') : SX W' g o K y := ⟨bkeep hb h.1, h.2.below hb⟩
theorem SX.frm {S : Nat → Prop} {W W' : World} {g o K : Nat} {y : Pq} (h : SX W g o K y) (hf : Frm S W W') (h1 : ¬ S g) (h2 : ¬ S K) : SX W' g o K y := by
  have k1 : ∀ {p : Addr} {v : Value}, p.block = g → W.cell? p = some v → W'.cell? p = some v := fun hp hv => hf.cell (by rw [hp]; exact h1) hv
  have k2 : ∀ {p : Addr} {v : Value}, p.block = K → W.cell? p = some v → W'.cell? p = some v := fun hp hv => hf.cell (by rw [hp]; exact h2) hv
  obtain ⟨h0, a0, a1, a2, a3, a4, a5, a6, a7, a8, a9⟩ := h
  exact ⟨k1 rfl h0, k2 rfl a0, k2 rfl a1, k2 rfl a2, k2 rfl a3, k2 rfl a4, k2 rfl a5, k2 rfl a6, k2 rfl a7, k2 rfl a8, k2 rfl a9⟩
def FStr : Fl ByteArray where
  T := 9
  Ts := 37
  k := 1
  bytes := 16
  zero := .string ByteArray.empty
  fl := fun x => [.string x]
  len _ := rfl
  one x u hu := by
    simp at hu
    subst hu; rfl
  pos := by decide
  small := by decide
  under := Tryd.underlying37
  info := by kernel_rfl
  zlen := rfl
theorem str_flat (l : List ByteArray) : FStr.flat l = l.map Value.string := by
  unfold Fl.flat
  induction l with
  | nil => rfl
  | cons a l ih => rw [List.flatMap_cons, ih]; rfl
theorem Strs.row {w : World} {B : Nat} {v : Value} {l : List ByteArray} : Strs w B v l ↔ FStr.Row w B v l := by
  unfold Fl.Row
  rw [str_flat]
  exact Iff.rfl
theorem TX.x {w : World} {v : Value} {l : List ByteArray} (h : TX w 0 v l) : FStr.X w v l := by
  rcases h with ⟨rfl, rfl⟩ | ⟨g, o, cap, rfl, _, _, hc⟩
  · exact ⟨none, 0, rfl, fun h => absurd rfl h⟩
  · refine ⟨_, cap, rfl, fun _ => ⟨g, o, rfl, fun j u hj => ?_⟩⟩
    rw [str_flat] at hj
    obtain ⟨hk, rfl⟩ := List.getElem?_eq_some_iff.1 hj
    rw [List.length_map] at hk
    rw [List.getElem_map]
    exact hc j hk
theorem step_app_tx2 {ops : Array Oper} {o : Oper} {a : Act} {K : Act → World → Prop} {Q : Exit → Act → World → Prop} {E : Prop} (hg : o.guard = none) (s x : Operand) (w : World) (B : Nat) (v vx : Value) (l m : List ByteArray) (hs : a.eval s = v) (hx : a.eval x = vx)
    (hown : Strs w B v l) (htx : TX w 0 vx m) (hlen : l.length + m.length ≤ 1000000) (hB : B ≤ w.heap.size)
    (h : ∀ v' w', Strs w' B v' (l ++ m) → Frm (fun k => some k = v.ownBlock) w w' → K (a.put o.dst v') w')
    (ho : o.op = .call { callee := .builtin .append, args := #[s, x], argTypes := #[37, 37] } := by rfl) (ht : o.type = 37 := by rfl) : if Region.wanted o (yielded ops a.tmps) = true then Oper.wp Tryd.prog o a w K Q else E := by
  have hw : Region.wanted o (yielded ops a.tmps) = true := by simp [Region.wanted, hg]
  rw [if_pos hw]
  exact FStr.wp_app s x w B v vx l m hs hx (Strs.row.1 hown) htx.x hlen hB (fun v' w' h1 h2 _ => h v' w' (Strs.row.2 h1) h2) ho ht
set_option maxHeartbeats 6400000 in
theorem walk_ReportStates (ex : Int) (ux : (Lit.int .i64 ex).wf = true) (k a b : Int) (d : ByteArray) (p q : Int) (e : ByteArray) (r s : Int) (f : ByteArray)
    (uk : (Lit.int .i64 k).wf = true) (ua : (Lit.int .i64 a).wf = true) (ub : (Lit.int .i64 b).wf = true) (ud : d.size ≤ maxLen) (up : (Lit.int .i64 p).wf = true) (uq : (Lit.int .i64 q).wf = true) (ue : e.size ≤ maxLen) (ur : (Lit.int .i64 r).wf = true) (us : (Lit.int .i64 s).wf = true) (uf : f.size ≤ maxLen)
    (al : Option Addr) (lenl capl : Nat) (l : List Pq) {w : World} (hl : IsList w al lenl 7 pqE pqOk l) (hm : ML w) :
    Calls Tryd.prog 4 #[.int .i64 ex, SS k a b d p q e r s f, .slice al lenl capl] w fun e' w' => e' = .returned (.bool true) ∧ Below w.heap.size w w' := by
  have e1 := hl.size_eq
  have m1 := hl.most
  subst e1
  have hP := pq_at hl
  clear hl
  have hE : ∀ W, Below w.heap.size w W → (fun (e' : Ending) (w' : World) => e' = .returned (.bool true) ∧ Below w.heap.size w w') (.returned (.bool true)) W := fun W h => ⟨rfl, h⟩
  generalize (fun (e' : Ending) (w' : World) => e' = .returned (.bool true) ∧ Below w.heap.size w w') = Pst at *
  replace hE := Lib.hid hE
  have hS := fun W => state_any ex k a b d p q e r s f W (i64_wf ux) (i64_wf ua) (i64_wf ub) (i64_wf up) (i64_wf uq) (i64_wf ur) (i64_wf us) ud ue uf
  have hR := fun W => rstate_any ex k a b d p q e r s f W (i64_wf ux) (i64_wf ua) (i64_wf ub) (i64_wf up) (i64_wf uq) (i64_wf ur) (i64_wf us) ud ue uf
  have hX := fun W => sum_any d W ud
  have hY := fun W => rsum_any d W ud
  have hG := fun W => great_any k a b d p q e r s f W
  generalize stS ex k a b d p q e r s f = t1 at *
  generalize sumS d = t2 at *
  generalize greatB d e f = gb at *
  replace hS := Lib.hid hS
  replace hR := Lib.hid hR
  replace hX := Lib.hid hX
  replace hY := Lib.hid hY
  replace hG := Lib.hid hG
  have hk1 : (t1.toList == t1.toList) = true := beq_self_eq_true _
  have hk2 : (t2.toList == t2.toList) = true := beq_self_eq_true _
  clear ux uk ua ub ud up uq ue ur us uf
  obtain ⟨W0, hW0⟩ : ∃ W0, w.alloc (.cells #[.int .i64 k, .int .i64 a, .int .i64 b, .string d, .int .i64 p, .int .i64 q, .string e, .int .i64 r, .int .i64 s, .string f] 28) = W0 := ⟨_, rfl⟩
  have hr2 := hW0 ▸ H10.new w 28 k a b d p q e r s f
  have hb2 : Below w.heap.size w W0 := hW0 ▸ alb w _
  have hwk := Lib.hid (works_any W0 (hm.below hb2))
  replace hP := Lib.hid (hP.below hb2)
  replace hr2 := Lib.hid hr2
  replace hb2 := Lib.hid hb2
  clear hm
  cases gb with
  | true =>
    go_enter Tryd.func4, Tryd.ntmps4
    go_wp2_with (first | (go_at_call 6; (with_reducible refine hwk.out.mono ?_); rintro e1 w1 ⟨rfl, hA⟩; replace hr2 := Lib.hid (hr2.out.below hA); replace hb2 := Lib.hid (bt hb2.out hA); obtain ⟨c0, c1, c2, c3, c4, c5, c6, c7, c8, c9⟩ := hr2.out; clear hA) | (go_at_call 7; (with_reducible refine (hG.out _).mono ?_); rintro e2 w2 ⟨rfl, hA⟩; replace hb2 := Lib.hid (bt hb2.out hA)))
    exact hE.out _ hb2.out
  | false =>
    by_cases h30 : 30 < l.length
    · have d1 : decide ((30 : Int) < (l.length : Int)) = true := decide_eq_true (by omega)
      have d2 : decide (30 < l.length) = true := decide_eq_true h30
      go_enter Tryd.func4, Tryd.ntmps4
      go_wp2_with (first | (go_at_call 6; (with_reducible refine hwk.out.mono ?_); rintro e1 w1 ⟨rfl, hA⟩; replace hr2 := Lib.hid (hr2.out.below hA); replace hb2 := Lib.hid (bt hb2.out hA); obtain ⟨c0, c1, c2, c3, c4, c5, c6, c7, c8, c9⟩ := hr2.out; clear hA) | (go_at_call 7; (with_reducible refine (hG.out _).mono ?_); rintro e2 w2 ⟨rfl, hA⟩; replace hb2 := Lib.hid (bt hb2.out hA)))
      exact hE.out _ hb2.out
    · have d1 : decide ((30 : Int) < (l.length : Int)) = false := decide_eq_false (by omega)
      have d2 : decide (30 < l.length) = false := decide_eq_false h30
      go_enter Tryd.func4, Tryd.ntmps4
      go_wp2_with (first | (go_at_call 6; (with_reducible refine hwk.out.mono ?_); rintro e1 w1 ⟨rfl, hA⟩; replace hr2 := Lib.hid (hr2.out.below hA); replace hb2 := Lib.hid (bt hb2.out hA); replace hP := Lib.hid (hP.out.below hA); obtain ⟨c0, c1, c2, c3, c4, c5, c6, c7, c8, c9⟩ := hr2.out; clear hA) | (go_at_call 7; (with_reducible refine (hG.out _).mono ?_); rintro e2 w2 ⟨rfl, hA⟩; replace hb2 := Lib.hid (bt hb2.out hA); replace hr2 := Lib.hid (hr2.out.below hA); replace hP := Lib.hid (hP.out.below hA); clear hA c0 c1 c2 c3 c4 c5 c6 c7 c8 c9))
      go_loopw [7, 8] (fun vo vi wr => LRel w2 l vo vi wr) (fun _ vi _ => l.length - (intOf vi).toNat)
      case atStart => exact ⟨0, Nat.zero_le _, rfl, Lib.hid (Strs.nil _ _), Lib.hid (Below.refl _ _)⟩
      case round =>
        obtain ⟨j, hj, rfl, hO, hB⟩ := hrel
        by_cases hlt : j < l.length
        · have hd2 : decide ((j : Int) < (l.length : Int)) = true := decide_eq_true (by omega)
          have hd3 : decide (j < l.length) = true := decide_eq_true hlt
          obtain ⟨y, hy⟩ : ∃ y, l[j]? = some y := ⟨_, List.getElem?_eq_getElem hlt⟩
          obtain ⟨hyo, g, o, rfl, p0, p1, p2, p3, p4, p5, p6⟩ := hP.out j y hy
          have hgl := Lib.hid (World.block_lt_of_cell? _ _ p0)
          have p0 := bkeep hB.out p0
          have p1 := bkeep hB.out p1
          have p2 := bkeep hB.out p2
          have p3 := bkeep hB.out p3
          have p4 := bkeep hB.out p4
          have p5 := bkeep hB.out p5
          have p6 := bkeep hB.out p6
          have hol := Lib.hid (fun q (hq : u7.ownBlock = some q) => World.ownsRow.lt hO.out q hq)
          have hct := Lib.hid (cf_take hy)
          have hSt := Lib.hid (fun W => rcf_state y hyo W)
          have hGr := fun W => great_any 1 0 0 ⟨#[]⟩ y.p y.q y.e y.r y.s y.f W
          have i1 : (0 : Int) ≤ (j : Int) := by omega
          have i2 : (j : Int) < (l.length : Int) := by omega
          have hcl : (cfL (l.take j)).length ≤ 30 := by unfold cfL; rw [List.length_map, List.length_take]; omega
          generalize cfL (l.take j) = SN at *
          generalize cfS y = cs at *
          generalize greatB ⟨#[]⟩ y.e y.f = gr at *
          replace hGr := Lib.hid hGr
          clear hyo hy
          have hz := alb wr (.cells #[.int .i64 0, .int .i64 0, .int .i64 0, .string ⟨#[]⟩, .int .i64 0, .int .i64 0, .string ⟨#[]⟩, .int .i64 0, .int .i64 0, .string ⟨#[]⟩] 28)
          have p2 : wr.cell? ⟨g, o + j * 7 + 1 + 1, none⟩ = some (.int .i64 y.q) := p2
          have p3 : wr.cell? ⟨g, o + j * 7 + 1 + 2, none⟩ = some (.string y.e) := p3
          have p5 : wr.cell? ⟨g, o + j * 7 + 4 + 1, none⟩ = some (.int .i64 y.s) := p5
          have p6 : wr.cell? ⟨g, o + j * 7 + 4 + 2, none⟩ = some (.string y.f) := p6
          have q1 := bkeep hz p1
          have q2 := bkeep hz p2
          have q3 := bkeep hz p3
          have q4 := bkeep hz p4
          have q5 := bkeep hz p5
          have q6 := bkeep hz p6
          clear hz
          go_wp2_with fail
          go_region
          have hx := H10.new wr 28 1 0 0 ⟨#[]⟩ y.p y.q y.e y.r y.s y.f
          have hbW := bt (alb wr (.cells #[.int .i64 1, .int .i64 0, .int .i64 0, .string ⟨#[]⟩, .int .i64 y.p, .int .i64 y.q, .string y.e, .int .i64 y.r, .int .i64 y.s, .string y.f] 28)) (bdrw _)
          replace hx := Lib.hid (hx.below (bdrw _))
          replace hO := Lib.hid (hO.out.below hbW)
          replace hB := Lib.hid (bt hB.out hbW)
          have hp0 := Lib.hid (bkeep hbW p0)
          clear hbW p0 p1 p2 p3 p4 p5 p6 q1 q2 q3 q4 q5 q6
          generalize (wr.alloc (.cells #[.int .i64 1, .int .i64 0, .int .i64 0, .string ⟨#[]⟩, .int .i64 y.p, .int .i64 y.q, .string y.e, .int .i64 y.r, .int .i64 y.s, .string y.f] 28)).drew = WX at *
          obtain ⟨c0, c1, c2, c3, c4, c5, c6, c7, c8, c9⟩ := hx.out
          cases gr with
          | true =>
            go_wp2_with (go_at_call 7; (with_reducible refine (hGr.out _).mono ?_); rintro e5 w5 ⟨rfl, hA⟩; replace hB := Lib.hid (bt hB.out hA))
            exact hE.out _ (bt hb2.out hB.out)
          | false =>
            go_wp2_with (go_at_call 7; (with_reducible refine (hGr.out _).mono ?_); rintro e5 w5 ⟨rfl, hA⟩; replace hB := Lib.hid (bt (bt hB.out hA) (bdrw _)); replace hO := Lib.hid ((hO.out.below hA).below (bdrw _)); have hM0 := Lib.hid (SX.below ⟨bkeep hA hp0.out, hx.out.below hA⟩ (bdrw _)); clear hA)
            clear c0 c1 c2 c3 c4 c5 c6 c7 c8 c9 hp0 hx
            generalize wr.heap.size = Kx at *
            refine wp_region_held_drew (S := (fun w' => SX w' g (o + j * 7) Kx y)) (by kernel_rfl) ?_ (fun hHeld => ?_)
            · first | with_reducible exact hM0.out | exact SX.below hM0.out (alb _ _) | with_reducible exact hM1.out
            first | (refine tw (i := 0) (v := ?_) ?_ hHeld ?_; rotate_left; focus (intro w hSw; (try dsimp only at hSw); (try simp only [SX, H10] at hSw); go_simp; (try with_reducible rfl); done)) | refine tn (i := 0) hHeld ?_
            try simp only [Act.put, List.setIfInBounds_toArray, List.set_cons_zero, List.set_cons_succ]
            first | (refine tw (i := 1) (v := ?_) ?_ hHeld ?_; rotate_left; focus (intro w hSw; (try dsimp only at hSw); (try simp only [SX, H10] at hSw); go_simp; (try with_reducible rfl); done)) | refine tn (i := 1) hHeld ?_
            try simp only [Act.put, List.setIfInBounds_toArray, List.set_cons_zero, List.set_cons_succ]
            first | (refine tw (i := 2) (v := ?_) ?_ hHeld ?_; rotate_left; focus (intro w hSw; (try dsimp only at hSw); (try simp only [SX, H10] at hSw); go_simp; (try with_reducible rfl); done)) | refine tn (i := 2) hHeld ?_
            try simp only [Act.put, List.setIfInBounds_toArray, List.set_cons_zero, List.set_cons_succ]
            first | (refine tw (i := 3) (v := ?_) ?_ hHeld ?_; rotate_left; focus (intro w hSw; (try dsimp only at hSw); (try simp only [SX, H10] at hSw); go_simp; (try with_reducible rfl); done)) | refine tn (i := 3) hHeld ?_
            try simp only [Act.put, List.setIfInBounds_toArray, List.set_cons_zero, List.set_cons_succ]
            first | (refine tw (i := 4) (v := ?_) ?_ hHeld ?_; rotate_left; focus (intro w hSw; (try dsimp only at hSw); (try simp only [SX, H10] at hSw); go_simp; (try with_reducible rfl); done)) | refine tn (i := 4) hHeld ?_
            try simp only [Act.put, List.setIfInBounds_toArray, List.set_cons_zero, List.set_cons_succ]
            first | (refine tw (i := 5) (v := ?_) ?_ hHeld ?_; rotate_left; focus (intro w hSw; (try dsimp only at hSw); (try simp only [SX, H10] at hSw); go_simp; (try with_reducible rfl); done)) | refine tn (i := 5) hHeld ?_
            try simp only [Act.put, List.setIfInBounds_toArray, List.set_cons_zero, List.set_cons_succ]
            first | (refine tw (i := 6) (v := ?_) ?_ hHeld ?_; rotate_left; focus (intro w hSw; (try dsimp only at hSw); (try simp only [SX, H10] at hSw); go_simp; (try with_reducible rfl); done)) | refine tn (i := 6) hHeld ?_
            try simp only [Act.put, List.setIfInBounds_toArray, List.set_cons_zero, List.set_cons_succ]
            refine call_next (i := 7) (by kernel_rfl) (by rfl) ?_
            intro o ho K hK
            simp only [List.getElem?_toArray, List.getElem?_cons_succ, List.getElem?_cons_zero, Option.some.injEq] at ho
            subst ho
            first | ((refine step_app_tx2 rfl (.tmp 38) (.tmp 46) _ w2.heap.size _ _ SN [cs] rfl rfl (hO.out.below (alb _ _)) (tx_lit _ [cs] _ 1 rfl rfl) (by simp; omega) (bt hB.out (alb _ _)).size ?_ rfl rfl; intro v8 w8 h8 h9; replace hO := Lib.hid h8; have hM1 := Lib.hid (SX.frm (SX.below hM0.out (alb _ _)) h9 (fun e => Nat.lt_irrefl _ (Nat.lt_of_lt_of_le hgl.out (hol.out _ e.symm).1)) (fun e => Nat.lt_irrefl _ (hol.out _ e.symm).2)); replace hB := Lib.hid (h9.after (bt hB.out (alb _ _)) (bt hB.out (alb _ _)).size fun q hq e => Nat.lt_irrefl _ (Nat.lt_of_lt_of_le hq (hol.out _ e.symm).1)); clear h8 h9); refine hK.out _ _ ?_ (fun hHeld => ?_)) | (go_simp; first | (with_reducible refine hK.out _ _ ?_ (fun hHeld => ?_)) | ((go_at_call 12; (with_reducible refine (hSt.out _).mono ?_); rintro e6 w6 ⟨rfl, hA⟩; replace hB := Lib.hid (bt hB.out hA); replace hO := Lib.hid (hO.out.below hA); replace hM0 := Lib.hid (SX.below hM0.out hA); clear hA); refine hK.out _ _ ?_ (fun hHeld => ?_)))
            · first | with_reducible exact hM0.out | exact SX.below hM0.out (alb _ _) | with_reducible exact hM1.out
            clear hK K
            try simp only [Act.put, List.setIfInBounds_toArray, List.set_cons_zero, List.set_cons_succ]
            refine call_next (i := 8) (by kernel_rfl) (by rfl) ?_
            intro o ho K hK
            simp only [List.getElem?_toArray, List.getElem?_cons_succ, List.getElem?_cons_zero, Option.some.injEq] at ho
            subst ho
            first | ((refine step_app_tx2 rfl (.tmp 38) (.tmp 46) _ w2.heap.size _ _ SN [cs] rfl rfl (hO.out.below (alb _ _)) (tx_lit _ [cs] _ 1 rfl rfl) (by simp; omega) (bt hB.out (alb _ _)).size ?_ rfl rfl; intro v8 w8 h8 h9; replace hO := Lib.hid h8; have hM1 := Lib.hid (SX.frm (SX.below hM0.out (alb _ _)) h9 (fun e => Nat.lt_irrefl _ (Nat.lt_of_lt_of_le hgl.out (hol.out _ e.symm).1)) (fun e => Nat.lt_irrefl _ (hol.out _ e.symm).2)); replace hB := Lib.hid (h9.after (bt hB.out (alb _ _)) (bt hB.out (alb _ _)).size fun q hq e => Nat.lt_irrefl _ (Nat.lt_of_lt_of_le hq (hol.out _ e.symm).1)); clear h8 h9); refine hK.out _ _ ?_ (fun hHeld => ?_)) | (go_simp; first | (with_reducible refine hK.out _ _ ?_ (fun hHeld => ?_)) | ((go_at_call 12; (with_reducible refine (hSt.out _).mono ?_); rintro e6 w6 ⟨rfl, hA⟩; replace hB := Lib.hid (bt hB.out hA); replace hO := Lib.hid (hO.out.below hA); replace hM0 := Lib.hid (SX.below hM0.out hA); clear hA); refine hK.out _ _ ?_ (fun hHeld => ?_)))
            · first | with_reducible exact hM0.out | exact SX.below hM0.out (alb _ _) | with_reducible exact hM1.out
            clear hK K
            try simp only [Act.put, List.setIfInBounds_toArray, List.set_cons_zero, List.set_cons_succ]
            refine call_next (i := 9) (by kernel_rfl) (by rfl) ?_
            intro o ho K hK
            simp only [List.getElem?_toArray, List.getElem?_cons_succ, List.getElem?_cons_zero, Option.some.injEq] at ho
            subst ho
            (refine step_app_tx2 rfl (.tmp 38) (.tmp 46) _ w2.heap.size _ _ SN [cs] rfl rfl (hO.out.below (alb _ _)) (tx_lit _ [cs] _ 1 rfl rfl) (by simp; omega) (bt hB.out (alb _ _)).size ?_ rfl rfl; intro v8 w8 h8 h9; replace hO := Lib.hid h8; have hM1 := Lib.hid (SX.frm (SX.below hM0.out (alb _ _)) h9 (fun e => Nat.lt_irrefl _ (Nat.lt_of_lt_of_le hgl.out (hol.out _ e.symm).1)) (fun e => Nat.lt_irrefl _ (hol.out _ e.symm).2)); replace hB := Lib.hid (h9.after (bt hB.out (alb _ _)) (bt hB.out (alb _ _)).size fun q hq e => Nat.lt_irrefl _ (Nat.lt_of_lt_of_le hq (hol.out _ e.symm).1)); clear h8 h9); refine hK.out _ _ ?_ (fun hHeld => ?_)
            · first | with_reducible exact hM0.out | exact SX.below hM0.out (alb _ _) | with_reducible exact hM1.out
            clear hK K
            try simp only [Act.put, List.setIfInBounds_toArray, List.set_cons_zero, List.set_cons_succ]
            first | (refine tw (i := 10) (v := ?_) ?_ hHeld ?_; rotate_left; focus (intro w hSw; (try dsimp only at hSw); (try simp only [SX, H10] at hSw); go_simp; (try with_reducible rfl); done)) | refine tn (i := 10) hHeld ?_
            try simp only [Act.put, List.setIfInBounds_toArray, List.set_cons_zero, List.set_cons_succ]
            refine wpAnyH_done (by kernel_rfl) ?_ _
            go_wp2
            exact ⟨⟨j + 1, by omega, by go_num, by rw [hct.out]; exact hO, hB⟩, by simp [intOf]; omega⟩
        · have hd2 : decide ((j : Int) < (l.length : Int)) = false := decide_eq_false (by omega)
          have hd3 : decide (j < l.length) = false := decide_eq_false hlt
          rw [List.take_of_length_le (by omega)] at hO
          replace hr2 := Lib.hid (H10.below (hr2.out.below hB.out) (bdrw _))
          replace hP := Lib.hid (PqAt.below (hP.out.below hB.out) (bdrw _))
          replace hO := Lib.hid (hO.out.below (bdrw _))
          replace hb2 := Lib.hid (bt (bt hb2.out hB.out) (bdrw _))
          have hcl : (cfL l).length ≤ 30 := by unfold cfL; rw [List.length_map]; omega
          clear hB hG
          generalize hCF : cfL l = CF at *
          go_wp2_with fail
          refine wp_region_held_drew (S := (fun w' => H10 w' w.heap.size k a b d p q e r s f)) (by kernel_rfl) ?_ (fun hHeld => ?_)
          · first | with_reducible exact hr2.out
          first | (refine tw (i := 0) (v := ?_) ?_ hHeld ?_; rotate_left; focus (intro w hSw; (try dsimp only at hSw); (try simp only [H10] at hSw); go_simp; (try with_reducible rfl); done)) | refine tn (i := 0) hHeld ?_
          try simp only [Act.put, List.setIfInBounds_toArray, List.set_cons_zero, List.set_cons_succ]
          first | (refine tw (i := 1) (v := ?_) ?_ hHeld ?_; rotate_left; focus (intro w hSw; (try dsimp only at hSw); (try simp only [H10] at hSw); go_simp; (try with_reducible rfl); done)) | refine tn (i := 1) hHeld ?_
          try simp only [Act.put, List.setIfInBounds_toArray, List.set_cons_zero, List.set_cons_succ]
          first | (refine tw (i := 3) (v := ?_) ?_ hHeld ?_; rotate_left; focus (intro w hSw; (try dsimp only at hSw); (try simp only [H10] at hSw); go_simp; (try with_reducible rfl); done)) | refine tn (i := 3) hHeld ?_
          try simp only [Act.put, List.setIfInBounds_toArray, List.set_cons_zero, List.set_cons_succ]
          first | (refine tw (i := 4) (v := ?_) ?_ hHeld ?_; rotate_left; focus (intro w hSw; (try dsimp only at hSw); (try simp only [H10] at hSw); go_simp; (try with_reducible rfl); done)) | refine tn (i := 4) hHeld ?_
          try simp only [Act.put, List.setIfInBounds_toArray, List.set_cons_zero, List.set_cons_succ]
          refine call_next (i := 2) (by kernel_rfl) (by rfl) ?_
          intro o ho K hK
          simp only [List.getElem?_toArray, List.getElem?_cons_succ, List.getElem?_cons_zero, Option.some.injEq] at ho
          subst ho
          first | (fail; refine hK.out _ _ ?_ (fun hHeld => ?_)) | (go_simp; first | (with_reducible refine hK.out _ _ ?_ (fun hHeld => ?_)) | ((first | (go_at_call 10; (with_reducible refine (hS.out _).mono ?_); rintro e5 w5 ⟨rfl, hA⟩; replace hr2 := Lib.hid (hr2.out.below hA); replace hO := Lib.hid (hO.out.below hA); replace hb2 := Lib.hid (bt hb2.out hA); replace hP := Lib.hid (hP.out.below hA); clear hA) | (go_at_call 12; (with_reducible refine (hR.out _).mono ?_); rintro e5 w5 ⟨rfl, hA⟩; replace hr2 := Lib.hid (hr2.out.below hA); replace hO := Lib.hid (hO.out.below hA); replace hb2 := Lib.hid (bt hb2.out hA); replace hP := Lib.hid (hP.out.below hA); clear hA) | (go_at_call 14; (with_reducible refine (conf_any al capl l _ hP.out (by omega)).mono ?_); rintro e6 w6 ⟨vC, rfl, hC, hA⟩; replace hC := Lib.hid (hCF ▸ hC); replace hr2 := Lib.hid (hr2.out.below hA); replace hO := Lib.hid (hO.out.below hA); replace hb2 := Lib.hid (bt hb2.out hA); replace hP := Lib.hid (hP.out.below hA); clear hA) | (go_at_call 13; (with_reducible refine (same_tx _ _ _ _ CF CF _ hC.out.tx hO.out.tx (by omega)).mono ?_); rintro e7 w7 ⟨rfl, hA⟩; rw [decide_eq_true (rfl : CF = CF)]; replace hr2 := Lib.hid (hr2.out.below hA); replace hO := Lib.hid (hO.out.below hA); replace hb2 := Lib.hid (bt hb2.out hA); replace hP := Lib.hid (hP.out.below hA); clear hA) | (go_at_call 15; (with_reducible refine (hX.out _).mono ?_); rintro e5 w5 ⟨rfl, hA⟩; replace hr2 := Lib.hid (hr2.out.below hA); replace hO := Lib.hid (hO.out.below hA); replace hb2 := Lib.hid (bt hb2.out hA); replace hP := Lib.hid (hP.out.below hA); clear hA) | (go_at_call 16; (with_reducible refine (hY.out _).mono ?_); rintro e5 w5 ⟨rfl, hA⟩; replace hr2 := Lib.hid (hr2.out.below hA); replace hO := Lib.hid (hO.out.below hA); replace hb2 := Lib.hid (bt hb2.out hA); replace hP := Lib.hid (hP.out.below hA); clear hA)); refine hK.out _ _ ?_ (fun hHeld => ?_)))
          · first | with_reducible exact hr2.out
          clear hK K
          try simp only [Act.put, List.setIfInBounds_toArray, List.set_cons_zero, List.set_cons_succ]
          refine call_next (i := 5) (by kernel_rfl) (by rfl) ?_
          intro o ho K hK
          simp only [List.getElem?_toArray, List.getElem?_cons_succ, List.getElem?_cons_zero, Option.some.injEq] at ho
          subst ho
          first | (fail; refine hK.out _ _ ?_ (fun hHeld => ?_)) | (go_simp; first | (with_reducible refine hK.out _ _ ?_ (fun hHeld => ?_)) | ((first | (go_at_call 10; (with_reducible refine (hS.out _).mono ?_); rintro e5 w5 ⟨rfl, hA⟩; replace hr2 := Lib.hid (hr2.out.below hA); replace hO := Lib.hid (hO.out.below hA); replace hb2 := Lib.hid (bt hb2.out hA); replace hP := Lib.hid (hP.out.below hA); clear hA) | (go_at_call 12; (with_reducible refine (hR.out _).mono ?_); rintro e5 w5 ⟨rfl, hA⟩; replace hr2 := Lib.hid (hr2.out.below hA); replace hO := Lib.hid (hO.out.below hA); replace hb2 := Lib.hid (bt hb2.out hA); replace hP := Lib.hid (hP.out.below hA); clear hA) | (go_at_call 14; (with_reducible refine (conf_any al capl l _ hP.out (by omega)).mono ?_); rintro e6 w6 ⟨vC, rfl, hC, hA⟩; replace hC := Lib.hid (hCF ▸ hC); replace hr2 := Lib.hid (hr2.out.below hA); replace hO := Lib.hid (hO.out.below hA); replace hb2 := Lib.hid (bt hb2.out hA); replace hP := Lib.hid (hP.out.below hA); clear hA) | (go_at_call 13; (with_reducible refine (same_tx _ _ _ _ CF CF _ hC.out.tx hO.out.tx (by omega)).mono ?_); rintro e7 w7 ⟨rfl, hA⟩; rw [decide_eq_true (rfl : CF = CF)]; replace hr2 := Lib.hid (hr2.out.below hA); replace hO := Lib.hid (hO.out.below hA); replace hb2 := Lib.hid (bt hb2.out hA); replace hP := Lib.hid (hP.out.below hA); clear hA) | (go_at_call 15; (with_reducible refine (hX.out _).mono ?_); rintro e5 w5 ⟨rfl, hA⟩; replace hr2 := Lib.hid (hr2.out.below hA); replace hO := Lib.hid (hO.out.below hA); replace hb2 := Lib.hid (bt hb2.out hA); replace hP := Lib.hid (hP.out.below hA); clear hA) | (go_at_call 16; (with_reducible refine (hY.out _).mono ?_); rintro e5 w5 ⟨rfl, hA⟩; replace hr2 := Lib.hid (hr2.out.below hA); replace hO := Lib.hid (hO.out.below hA); replace hb2 := Lib.hid (bt hb2.out hA); replace hP := Lib.hid (hP.out.below hA); clear hA)); refine hK.out _ _ ?_ (fun hHeld => ?_)))
          · first | with_reducible exact hr2.out
          clear hK K
          try simp only [Act.put, List.setIfInBounds_toArray, List.set_cons_zero, List.set_cons_succ]
          first | (refine tw (i := 6) (v := ?_) ?_ hHeld ?_; rotate_left; focus (intro w hSw; (try dsimp only at hSw); (try simp only [H10] at hSw); go_simp; (try with_reducible rfl); done)) | refine tn (i := 6) hHeld ?_
          try simp only [Act.put, List.setIfInBounds_toArray, List.set_cons_zero, List.set_cons_succ]
          first | (refine tw (i := 7) (v := ?_) ?_ hHeld ?_; rotate_left; focus (intro w hSw; (try dsimp only at hSw); (try simp only [H10] at hSw); go_simp; (try with_reducible rfl); done)) | refine tn (i := 7) hHeld ?_
          try simp only [Act.put, List.setIfInBounds_toArray, List.set_cons_zero, List.set_cons_succ]
          first | (refine tw (i := 8) (v := ?_) ?_ hHeld ?_; rotate_left; focus (intro w hSw; (try dsimp only at hSw); (try simp only [H10] at hSw); go_simp; (try with_reducible rfl); done)) | refine tn (i := 8) hHeld ?_
          try simp only [Act.put, List.setIfInBounds_toArray, List.set_cons_zero, List.set_cons_succ]
          first | (refine tw (i := 10) (v := ?_) ?_ hHeld ?_; rotate_left; focus (intro w hSw; (try dsimp only at hSw); (try simp only [H10] at hSw); go_simp; (try with_reducible rfl); done)) | refine tn (i := 10) hHeld ?_
          try simp only [Act.put, List.setIfInBounds_toArray, List.set_cons_zero, List.set_cons_succ]
          refine call_next (i := 9) (by kernel_rfl) (by rfl) ?_
          intro o ho K hK
          simp only [List.getElem?_toArray, List.getElem?_cons_succ, List.getElem?_cons_zero, Option.some.injEq] at ho
          subst ho
          first | (fail; refine hK.out _ _ ?_ (fun hHeld => ?_)) | (go_simp; first | (with_reducible refine hK.out _ _ ?_ (fun hHeld => ?_)) | ((first | (go_at_call 10; (with_reducible refine (hS.out _).mono ?_); rintro e5 w5 ⟨rfl, hA⟩; replace hr2 := Lib.hid (hr2.out.below hA); replace hO := Lib.hid (hO.out.below hA); replace hb2 := Lib.hid (bt hb2.out hA); replace hP := Lib.hid (hP.out.below hA); clear hA) | (go_at_call 12; (with_reducible refine (hR.out _).mono ?_); rintro e5 w5 ⟨rfl, hA⟩; replace hr2 := Lib.hid (hr2.out.below hA); replace hO := Lib.hid (hO.out.below hA); replace hb2 := Lib.hid (bt hb2.out hA); replace hP := Lib.hid (hP.out.below hA); clear hA) | (go_at_call 14; (with_reducible refine (conf_any al capl l _ hP.out (by omega)).mono ?_); rintro e6 w6 ⟨vC, rfl, hC, hA⟩; replace hC := Lib.hid (hCF ▸ hC); replace hr2 := Lib.hid (hr2.out.below hA); replace hO := Lib.hid (hO.out.below hA); replace hb2 := Lib.hid (bt hb2.out hA); replace hP := Lib.hid (hP.out.below hA); clear hA) | (go_at_call 13; (with_reducible refine (same_tx _ _ _ _ CF CF _ hC.out.tx hO.out.tx (by omega)).mono ?_); rintro e7 w7 ⟨rfl, hA⟩; rw [decide_eq_true (rfl : CF = CF)]; replace hr2 := Lib.hid (hr2.out.below hA); replace hO := Lib.hid (hO.out.below hA); replace hb2 := Lib.hid (bt hb2.out hA); replace hP := Lib.hid (hP.out.below hA); clear hA) | (go_at_call 15; (with_reducible refine (hX.out _).mono ?_); rintro e5 w5 ⟨rfl, hA⟩; replace hr2 := Lib.hid (hr2.out.below hA); replace hO := Lib.hid (hO.out.below hA); replace hb2 := Lib.hid (bt hb2.out hA); replace hP := Lib.hid (hP.out.below hA); clear hA) | (go_at_call 16; (with_reducible refine (hY.out _).mono ?_); rintro e5 w5 ⟨rfl, hA⟩; replace hr2 := Lib.hid (hr2.out.below hA); replace hO := Lib.hid (hO.out.below hA); replace hb2 := Lib.hid (bt hb2.out hA); replace hP := Lib.hid (hP.out.below hA); clear hA)); refine hK.out _ _ ?_ (fun hHeld => ?_)))
          · first | with_reducible exact hr2.out
          clear hK K
          try simp only [Act.put, List.setIfInBounds_toArray, List.set_cons_zero, List.set_cons_succ]
          refine call_next (i := 11) (by kernel_rfl) (by rfl) ?_
          intro o ho K hK
          simp only [List.getElem?_toArray, List.getElem?_cons_succ, List.getElem?_cons_zero, Option.some.injEq] at ho
          subst ho
          first | (fail; refine hK.out _ _ ?_ (fun hHeld => ?_)) | (go_simp; first | (with_reducible refine hK.out _ _ ?_ (fun hHeld => ?_)) | ((first | (go_at_call 10; (with_reducible refine (hS.out _).mono ?_); rintro e5 w5 ⟨rfl, hA⟩; replace hr2 := Lib.hid (hr2.out.below hA); replace hO := Lib.hid (hO.out.below hA); replace hb2 := Lib.hid (bt hb2.out hA); replace hP := Lib.hid (hP.out.below hA); clear hA) | (go_at_call 12; (with_reducible refine (hR.out _).mono ?_); rintro e5 w5 ⟨rfl, hA⟩; replace hr2 := Lib.hid (hr2.out.below hA); replace hO := Lib.hid (hO.out.below hA); replace hb2 := Lib.hid (bt hb2.out hA); replace hP := Lib.hid (hP.out.below hA); clear hA) | (go_at_call 14; (with_reducible refine (conf_any al capl l _ hP.out (by omega)).mono ?_); rintro e6 w6 ⟨vC, rfl, hC, hA⟩; replace hC := Lib.hid (hCF ▸ hC); replace hr2 := Lib.hid (hr2.out.below hA); replace hO := Lib.hid (hO.out.below hA); replace hb2 := Lib.hid (bt hb2.out hA); replace hP := Lib.hid (hP.out.below hA); clear hA) | (go_at_call 13; (with_reducible refine (same_tx _ _ _ _ CF CF _ hC.out.tx hO.out.tx (by omega)).mono ?_); rintro e7 w7 ⟨rfl, hA⟩; rw [decide_eq_true (rfl : CF = CF)]; replace hr2 := Lib.hid (hr2.out.below hA); replace hO := Lib.hid (hO.out.below hA); replace hb2 := Lib.hid (bt hb2.out hA); replace hP := Lib.hid (hP.out.below hA); clear hA) | (go_at_call 15; (with_reducible refine (hX.out _).mono ?_); rintro e5 w5 ⟨rfl, hA⟩; replace hr2 := Lib.hid (hr2.out.below hA); replace hO := Lib.hid (hO.out.below hA); replace hb2 := Lib.hid (bt hb2.out hA); replace hP := Lib.hid (hP.out.below hA); clear hA) | (go_at_call 16; (with_reducible refine (hY.out _).mono ?_); rintro e5 w5 ⟨rfl, hA⟩; replace hr2 := Lib.hid (hr2.out.below hA); replace hO := Lib.hid (hO.out.below hA); replace hb2 := Lib.hid (bt hb2.out hA); replace hP := Lib.hid (hP.out.below hA); clear hA)); refine hK.out _ _ ?_ (fun hHeld => ?_)))
          · first | with_reducible exact hr2.out
          clear hK K
          try simp only [Act.put, List.setIfInBounds_toArray, List.set_cons_zero, List.set_cons_succ]
          first | (refine tw (i := 12) (v := ?_) ?_ hHeld ?_; rotate_left; focus (intro w hSw; (try dsimp only at hSw); (try simp only [H10] at hSw); go_simp; (try with_reducible rfl); done)) | refine tn (i := 12) hHeld ?_
          try simp only [Act.put, List.setIfInBounds_toArray, List.set_cons_zero, List.set_cons_succ]
          first | (refine tw (i := 13) (v := ?_) ?_ hHeld ?_; rotate_left; focus (intro w hSw; (try dsimp only at hSw); (try simp only [H10] at hSw); go_simp; (try with_reducible rfl); done)) | refine tn (i := 13) hHeld ?_
          try simp only [Act.put, List.setIfInBounds_toArray, List.set_cons_zero, List.set_cons_succ]
          first | (refine tw (i := 14) (v := ?_) ?_ hHeld ?_; rotate_left; focus (intro w hSw; (try dsimp only at hSw); (try simp only [H10] at hSw); go_simp; (try with_reducible rfl); done)) | refine tn (i := 14) hHeld ?_
          try simp only [Act.put, List.setIfInBounds_toArray, List.set_cons_zero, List.set_cons_succ]
          first | (refine tw (i := 15) (v := ?_) ?_ hHeld ?_; rotate_left; focus (intro w hSw; (try dsimp only at hSw); (try simp only [H10] at hSw); go_simp; (try with_reducible rfl); done)) | refine tn (i := 15) hHeld ?_
          try simp only [Act.put, List.setIfInBounds_toArray, List.set_cons_zero, List.set_cons_succ]
          first | (refine tw (i := 17) (v := ?_) ?_ hHeld ?_; rotate_left; focus (intro w hSw; (try dsimp only at hSw); (try simp only [H10] at hSw); go_simp; (try with_reducible rfl); done)) | refine tn (i := 17) hHeld ?_
          try simp only [Act.put, List.setIfInBounds_toArray, List.set_cons_zero, List.set_cons_succ]
          first | (refine tw (i := 18) (v := ?_) ?_ hHeld ?_; rotate_left; focus (intro w hSw; (try dsimp only at hSw); (try simp only [H10] at hSw); go_simp; (try with_reducible rfl); done)) | refine tn (i := 18) hHeld ?_
          try simp only [Act.put, List.setIfInBounds_toArray, List.set_cons_zero, List.set_cons_succ]
          refine call_next (i := 16) (by kernel_rfl) (by rfl) ?_
          intro o ho K hK
          simp only [List.getElem?_toArray, List.getElem?_cons_succ, List.getElem?_cons_zero, Option.some.injEq] at ho
          subst ho
          first | (fail; refine hK.out _ _ ?_ (fun hHeld => ?_)) | (go_simp; first | (with_reducible refine hK.out _ _ ?_ (fun hHeld => ?_)) | ((first | (go_at_call 10; (with_reducible refine (hS.out _).mono ?_); rintro e5 w5 ⟨rfl, hA⟩; replace hr2 := Lib.hid (hr2.out.below hA); replace hO := Lib.hid (hO.out.below hA); replace hb2 := Lib.hid (bt hb2.out hA); replace hP := Lib.hid (hP.out.below hA); clear hA) | (go_at_call 12; (with_reducible refine (hR.out _).mono ?_); rintro e5 w5 ⟨rfl, hA⟩; replace hr2 := Lib.hid (hr2.out.below hA); replace hO := Lib.hid (hO.out.below hA); replace hb2 := Lib.hid (bt hb2.out hA); replace hP := Lib.hid (hP.out.below hA); clear hA) | (go_at_call 14; (with_reducible refine (conf_any al capl l _ hP.out (by omega)).mono ?_); rintro e6 w6 ⟨vC, rfl, hC, hA⟩; replace hC := Lib.hid (hCF ▸ hC); replace hr2 := Lib.hid (hr2.out.below hA); replace hO := Lib.hid (hO.out.below hA); replace hb2 := Lib.hid (bt hb2.out hA); replace hP := Lib.hid (hP.out.below hA); clear hA) | (go_at_call 13; (with_reducible refine (same_tx _ _ _ _ CF CF _ hC.out.tx hO.out.tx (by omega)).mono ?_); rintro e7 w7 ⟨rfl, hA⟩; rw [decide_eq_true (rfl : CF = CF)]; replace hr2 := Lib.hid (hr2.out.below hA); replace hO := Lib.hid (hO.out.below hA); replace hb2 := Lib.hid (bt hb2.out hA); replace hP := Lib.hid (hP.out.below hA); clear hA) | (go_at_call 15; (with_reducible refine (hX.out _).mono ?_); rintro e5 w5 ⟨rfl, hA⟩; replace hr2 := Lib.hid (hr2.out.below hA); replace hO := Lib.hid (hO.out.below hA); replace hb2 := Lib.hid (bt hb2.out hA); replace hP := Lib.hid (hP.out.below hA); clear hA) | (go_at_call 16; (with_reducible refine (hY.out _).mono ?_); rintro e5 w5 ⟨rfl, hA⟩; replace hr2 := Lib.hid (hr2.out.below hA); replace hO := Lib.hid (hO.out.below hA); replace hb2 := Lib.hid (bt hb2.out hA); replace hP := Lib.hid (hP.out.below hA); clear hA)); refine hK.out _ _ ?_ (fun hHeld => ?_)))
          · first | with_reducible exact hr2.out
          clear hK K
          try simp only [Act.put, List.setIfInBounds_toArray, List.set_cons_zero, List.set_cons_succ]
          refine call_next (i := 19) (by kernel_rfl) (by rfl) ?_
          intro o ho K hK
          simp only [List.getElem?_toArray, List.getElem?_cons_succ, List.getElem?_cons_zero, Option.some.injEq] at ho
          subst ho
          first | (fail; refine hK.out _ _ ?_ (fun hHeld => ?_)) | (go_simp; first | (with_reducible refine hK.out _ _ ?_ (fun hHeld => ?_)) | ((first | (go_at_call 10; (with_reducible refine (hS.out _).mono ?_); rintro e5 w5 ⟨rfl, hA⟩; replace hr2 := Lib.hid (hr2.out.below hA); replace hO := Lib.hid (hO.out.below hA); replace hb2 := Lib.hid (bt hb2.out hA); replace hP := Lib.hid (hP.out.below hA); clear hA) | (go_at_call 12; (with_reducible refine (hR.out _).mono ?_); rintro e5 w5 ⟨rfl, hA⟩; replace hr2 := Lib.hid (hr2.out.below hA); replace hO := Lib.hid (hO.out.below hA); replace hb2 := Lib.hid (bt hb2.out hA); replace hP := Lib.hid (hP.out.below hA); clear hA) | (go_at_call 14; (with_reducible refine (conf_any al capl l _ hP.out (by omega)).mono ?_); rintro e6 w6 ⟨vC, rfl, hC, hA⟩; replace hC := Lib.hid (hCF ▸ hC); replace hr2 := Lib.hid (hr2.out.below hA); replace hO := Lib.hid (hO.out.below hA); replace hb2 := Lib.hid (bt hb2.out hA); replace hP := Lib.hid (hP.out.below hA); clear hA) | (go_at_call 13; (with_reducible refine (same_tx _ _ _ _ CF CF _ hC.out.tx hO.out.tx (by omega)).mono ?_); rintro e7 w7 ⟨rfl, hA⟩; rw [decide_eq_true (rfl : CF = CF)]; replace hr2 := Lib.hid (hr2.out.below hA); replace hO := Lib.hid (hO.out.below hA); replace hb2 := Lib.hid (bt hb2.out hA); replace hP := Lib.hid (hP.out.below hA); clear hA) | (go_at_call 15; (with_reducible refine (hX.out _).mono ?_); rintro e5 w5 ⟨rfl, hA⟩; replace hr2 := Lib.hid (hr2.out.below hA); replace hO := Lib.hid (hO.out.below hA); replace hb2 := Lib.hid (bt hb2.out hA); replace hP := Lib.hid (hP.out.below hA); clear hA) | (go_at_call 16; (with_reducible refine (hY.out _).mono ?_); rintro e5 w5 ⟨rfl, hA⟩; replace hr2 := Lib.hid (hr2.out.below hA); replace hO := Lib.hid (hO.out.below hA); replace hb2 := Lib.hid (bt hb2.out hA); replace hP := Lib.hid (hP.out.below hA); clear hA)); refine hK.out _ _ ?_ (fun hHeld => ?_)))
          · first | with_reducible exact hr2.out
          clear hK K
          try simp only [Act.put, List.setIfInBounds_toArray, List.set_cons_zero, List.set_cons_succ]
          first | (refine tw (i := 20) (v := ?_) ?_ hHeld ?_; rotate_left; focus (intro w hSw; (try dsimp only at hSw); (try simp only [H10] at hSw); go_simp; (try with_reducible rfl); done)) | refine tn (i := 20) hHeld ?_
          try simp only [Act.put, List.setIfInBounds_toArray, List.set_cons_zero, List.set_cons_succ]
          first | (refine tw (i := 21) (v := ?_) ?_ hHeld ?_; rotate_left; focus (intro w hSw; (try dsimp only at hSw); (try simp only [H10] at hSw); go_simp; (try with_reducible rfl); done)) | refine tn (i := 21) hHeld ?_
          try simp only [Act.put, List.setIfInBounds_toArray, List.set_cons_zero, List.set_cons_succ]
          first | (refine tw (i := 22) (v := ?_) ?_ hHeld ?_; rotate_left; focus (intro w hSw; (try dsimp only at hSw); (try simp only [H10] at hSw); go_simp; (try with_reducible rfl); done)) | refine tn (i := 22) hHeld ?_
          try simp only [Act.put, List.setIfInBounds_toArray, List.set_cons_zero, List.set_cons_succ]
          refine wpAnyH_done (by kernel_rfl) ?_ _
          go_wp2
          exact hE.out _ hb2.out
end Go.Proofs.YtaddbljdheafaaaDoor
