/-
  What is shadowed (chapter 42): the program's walk.
-/
import Derived.Test.YtnflnaalpeeciaaDoorPol5
namespace Go.Proofs.YtnflnaalpeeciaaDoor
open Go.RowKit
set_option linter.unusedVariables false
set_option linter.unusedSimpArgs false
set_option maxRecDepth 20000

theorem HRl.frm {S : Nat → Prop} {W W' : World} {K : Nat} {k a b : Int} (h : HRl W K k a b) (hf : Frm S W W') (hs : ¬ S K) : HRl W' K k a b := ⟨hf.cell (p := ⟨K, 0, none⟩) hs h.c0, hf.cell (p := ⟨K, 1, none⟩) hs h.c1, hf.cell (p := ⟨K, 2, none⟩) hs h.c2⟩
/-- the shadowed so far -/
def SR (w : World) (l : List Rl) (vo i : Value) (wr : World) : Prop := ∃ k : Nat, k ≤ l.length ∧ i = .int .i64 k ∧ Hid (FI.Row wr (w.heap.size + 1) vo (shadL l k)) ∧ Hid (DR wr w.heap.size w.heap.size (fun x => doneB (l.take k) (x : Int))) ∧ Hid (w.heap.size + 1 ≤ wr.heap.size) ∧ Hid (Below w.heap.size w wr)
def SE (l : List Rl) (w : World) (e : Ending) (w' : World) : Prop := ∃ v, e = .returned v ∧ FI.Row w' w.heap.size v (shadL l l.length) ∧ Below w.heap.size w w'
def IR (w w4 : World) (f : Nat → Bool) (fin : Bool) (a b : Nat) (i : Value) (wr : World) : Prop := ∃ q : Nat, a ≤ q ∧ q ≤ b + 1 ∧ (fin = false → q = a) ∧ i = .int .i64 q ∧ Hid (DR wr w.heap.size w.heap.size (fun x => f x || decide (a ≤ x ∧ x < q))) ∧ Hid (Frm (fun k => k = w.heap.size) w4 wr)
set_option maxHeartbeats 6400000 in
theorem shad_any (l : List Rl) (v : Value) (w : World) (hl : FR.X w v l) (hn : l.length ≤ 100000) :
    Calls Tryd.prog 8 #[v] w (SE l w) := by
  obtain ⟨a, cap, rfl⟩ := hl.any
  have hE : ∀ v W, FI.Row W w.heap.size v (shadL l l.length) → Below w.heap.size w W → SE l w (.returned v) W := fun v W h1 h2 => ⟨v, rfl, h1, h2⟩
  generalize SE l w = Pst at *
  replace hE := Lib.hid hE
  replace hl := Lib.hid hl
  have hz : ∀ w, (zeroValue 53).run Tryd.prog w = .ok (.agg (Array.replicate 24 (.bool false))) w := fun _ => by kernel_rfl
  have hzc : (Value.agg (Array.replicate 24 (.bool false))).cells = Array.replicate 24 (.bool false) := rfl
  obtain ⟨W0, hW0⟩ : ∃ W0, w.alloc (.cells (Array.replicate 24 (.bool false)) 53) = W0 := ⟨_, rfl⟩
  have hD0 := Lib.hid (hW0 ▸ DR.new w w.heap.size (Nat.le_refl _))
  have hb0 := Lib.hid (hW0 ▸ alb w _ : Below w.heap.size w W0)
  have hs0 : Hid (w.heap.size + 1 ≤ W0.heap.size) := by
    show w.heap.size + 1 ≤ W0.heap.size
    rw [← hW0]; simp
  go_enter Tryd.func8, Tryd.ntmps8
  go_wp2
  go_loopw [3, 11] (fun vo i wr => SR w l vo i wr) (fun _ i _ => l.length - (intOf i).toNat)
  case atStart => exact ⟨0, Nat.zero_le _, rfl, Fl.Row.nil FI _ _, hD0.out, hs0, hb0⟩
  case round =>
    obtain ⟨k, hk, rfl, hR, hD, hs, hB⟩ := hrel
    by_cases hlt : k < l.length
    · have hd2 : decide ((k : Int) < (l.length : Int)) = true := decide_eq_true (by omega)
      obtain ⟨x, hx⟩ : ∃ x, l[k]? = some x := ⟨_, List.getElem?_eq_getElem hlt⟩
      obtain ⟨g, o, rfl, p0, p1, p2⟩ := FR.at hl.out k x hx
      have p0 := bkeep hB.out p0
      have p1 := bkeep hB.out p1
      have p2 := bkeep hB.out p2
      have i1 : (0 : Int) ≤ (k : Int) := by omega
      have i2 : (k : Int) < (l.length : Int) := by omega
      have hC := fun W => check_any x W
      have hsucc := shadL_succ l k
      have hdone := Lib.hid (fun y : Nat => done_take hx (y : Int))
      have hlen := shadL_len l k
      obtain ⟨va, vc, rfl⟩ := hR.out.any
      obtain ⟨W1, hW1⟩ : ∃ W1, wr.alloc (.cells #[.int .i64 x.k, .int .i64 x.a, .int .i64 x.b] 29) = W1 := ⟨_, rfl⟩
      have hx1 := Lib.hid (hW1 ▸ HRl.new wr 29 x.k x.a x.b)
      have hb1 : Below wr.heap.size wr W1 := hW1 ▸ alb wr _
      have hR1 := Lib.hid (hR.out.below hb1)
      have hD1 := Lib.hid (hD.out.below hb1)
      have hs1 := Lib.hid (Nat.le_trans hs.out hb1.size)
      have hKw : Hid (wr.heap.size ≠ w.heap.size) := by
        show wr.heap.size ≠ w.heap.size
        have := hs.out
        omega
      have hNo : Hid (¬ (some wr.heap.size = (Value.slice va (shadL l k).length vc).ownBlock)) := fun e => by
        have := (hR.out.lt _ e.symm).2
        omega
      obtain ⟨e0, e1, e2⟩ := hx1.out
      replace hb1 := Lib.hid (bt hB.out hb1)
      unfold rlV at hC
      by_cases hz0 : chkR x = 0
      · obtain ⟨⟨c1, c2⟩, c3, c4, c5⟩ := chkR_ok.1 hz0
        obtain ⟨a, ha⟩ : ∃ a : Nat, x.a = a := ⟨x.a.toNat, by omega⟩
        obtain ⟨b, hb⟩ : ∃ b : Nat, x.b = b := ⟨x.b.toNat, by omega⟩
        obtain ⟨xk, xa, xb⟩ := x
        simp only at ha hb p0 p1 p2 hx1 hC hW1 c1 c2 c3 c4 c5 e0 e1 e2
        subst ha hb
        have hab : a ≤ b := by omega
        have hb24 : b < 24 := by omega
        have hsh := shd_ok hx hz0 rfl rfl hab hb24
        have hcv := Lib.hid (fun y : Nat => cov_ok hz0 (a := a) (b := b) rfl rfl y)
        have hFN := fun W => final_any ⟨xk, a, b⟩ W
        unfold rlV at hFN
        rw [hz0, decide_eq_true rfl, Bool.true_and] at hFN
        rw [hz0] at hC
        simp only at hFN
        have hsl := fun W => slice24 W w.heap.size a b hab hb24
        have hw1 : IntKind.i64.wrap ((b : Int) + 1) = (b : Int) + 1 := by rw [IntWalk.i64_in _ (by omega)]
        generalize hfk : finK xk = fin at *
        generalize hf : (fun x : Nat => doneB (l.take k) (x : Int)) = f at *
        have hCT := fun W (h : BX W w.heap.size f) => cont_any w.heap.size a (b + 1 - a) (24 - a) f W (by omega) h
        generalize anyN f a (b + 1 - a) = an at *
        rw [hsh] at hsucc
        generalize shadL l k = SL at *
        replace hsucc := Lib.hid hsucc
        replace hC := Lib.hid hC
        replace hCT := Lib.hid hCT
        replace hFN := Lib.hid hFN
        have hfd : Hid (∀ y : Nat, y < 24 → doneB (l.take (k + 1)) (y : Int) = (f y || (decide (a ≤ y ∧ y ≤ b) && fin))) := by
          intro y _
          rw [hdone.out, hcv.out, ← hf]
        clear hx hsh hz0 hdone hcv hf hfk
        cases an with
        | false =>
          go_wp2_with (first | (go_at_call 20; (with_reducible refine (hC.out _).mono ?_); rintro e4 w2 ⟨rfl, hA⟩; have hR2 := Lib.hid (hR1.out.below hA); have hD2 := Lib.hid (hD1.out.below hA); have hs2 := Lib.hid (Nat.le_trans hs1.out hA.size); have hb2 := Lib.hid (bt hb1.out hA); have hx2 := Lib.hid (hx1.out.below hA); obtain ⟨d0, d1, d2⟩ := hx2.out; clear hA) | (go_at_call 22; (with_reducible refine (hCT.out _ hD2.out.bx).mono ?_); rintro e6 w3 ⟨rfl, hA⟩; have hR3 := Lib.hid (hR2.out.below hA); have hD3 := Lib.hid (hD2.out.below hA); have hs3 := Lib.hid (Nat.le_trans hs2.out hA.size); have hb3 := Lib.hid (bt hb2.out hA); have hx3 := Lib.hid (hx2.out.below hA); obtain ⟨t0, t1, t2⟩ := hx3.out; clear hA) | (at_builtin; refine Fl.wpl_app FI rfl (.tmp 32) (.tmp 34) _ (w.heap.size + 1) _ _ SL [k] rfl rfl (hR3.out.below (alb _ _)) (Fl.X.lit FI _ [k] _ 1 1 rfl rfl) (by simp; omega) (Nat.le_trans hs3.out (alb _ _).size) ?_ rfl rfl; intro v5 w5 h5 h6 _; have hR5 := Lib.hid h5; replace h5 := Lib.hid h5; have hlt5 := (hR3.out.below (alb _ (.cells #[.int .i64 k] 3))).lt; have hD5 := Lib.hid ((hD3.out.below (alb _ (.cells #[.int .i64 k] 3))).frm h6 (fun e => by have := (hlt5 _ e.symm).1; omega)); have hb5 := Lib.hid (h6.after (bt hb3.out (alb _ _)) (Nat.le_trans hb3.out.size (alb _ _).size) fun q hq e => by (have := (hlt5 q e.symm).1; omega)); have hx5 := Lib.hid ((hx3.out.below (alb _ (.cells #[.int .i64 k] 3))).frm h6 hNo.out); obtain ⟨z0, z1, z2⟩ := hx5.out; have hs5 := Lib.hid (Nat.le_trans hs3.out (Nat.le_trans (alb _ (.cells #[.int .i64 k] 3)).size h6.size)); clear h6 hlt5))
          clear d0 d1 d2 e0 e1 e2
          obtain ⟨y0, y1, y2⟩ := hx5.out
          have hfin : Hid (∀ (W : World) (q : Nat), Frm (fun k => k = w.heap.size) w5 W → DR W w.heap.size w.heap.size (fun x => f x || decide (a ≤ x ∧ x < q)) → (fin = false → q = a) → (fin = true → q = b + 1) → Hid (FI.Row W (w.heap.size + 1) v5 (shadL l (k + 1))) ∧ Hid (DR W w.heap.size w.heap.size (fun x => doneB (l.take (k + 1)) (x : Int))) ∧ Hid (w.heap.size + 1 ≤ W.heap.size) ∧ Hid (Below w.heap.size w W)) := by
            intro W q h1 h2 h3 h4
            refine ⟨?_, ?_, Nat.le_trans hs5.out h1.size, h1.after hb5.out hb5.out.size fun q hq e => by omega⟩
            · show FI.Row W (w.heap.size + 1) v5 (shadL l (k + 1))
              rw [hsucc.out]
              exact hR5.out.frm h1 fun g hg e => by
                have := (hR5.out.lt g hg).1
                omega
            · refine h2.congr fun y hy => ?_
              rw [hfd.out y hy]
              cases fin with
              | false =>
                rw [h3 rfl, Bool.and_false, decide_eq_false (by omega)]
              | true =>
                rw [h4 rfl, Bool.and_true]
                congr 1
                exact decide_eq_decide.2 (by omega)
          go_loopw [8] (fun i wr2 => IR w w5 f fin a b i wr2) (fun i _ => b + 1 - (intOf i).toNat)
          case atStart => exact ⟨a, Nat.le_refl _, by omega, fun _ => rfl, rfl, hD5.out.congr fun y _ => by (rw [decide_eq_false (by omega)]; simp), Frm.refl _ _⟩
          case round =>
            obtain ⟨q, hq1, hq2, hq3, rfl, hDq, hFq⟩ := hrel
            obtain ⟨s0, s1, s2⟩ := hx5.out.frm hFq.out (fun e => hKw.out e)
            clear y0 y1 y2
            have hxq := Lib.hid (hx5.out.frm hFq.out (fun e => hKw.out e))
            have i3 : (0 : Int) ≤ (q : Int) := by omega
            by_cases hqb : q ≤ b
            · have e1 : decide ((q : Int) ≤ (b : Int)) = true := decide_eq_true (by omega)
              have i4 : (q : Int) < 24 := by omega
              have i5 : q < 24 := by omega
              have hq3 := Lib.hid hq3
              cases fin with
              | false =>
                have hDq2 := hDq
                have hA9 := Lib.hid (fun W (h : Below wr.heap.size wr W) => hfin.out W q (hFq.out.below h) (hDq.out.below h) hq3.out (fun h => by cases h))
                go_wp2_with (go_at_call 23; (with_reducible refine (hFN.out _).mono ?_); rintro e7 w6 ⟨rfl, hA⟩; replace hA9 := hA9.out _ hA; clear hA)
                exact ⟨⟨k + 1, by omega, by go_num, hA9⟩, by simp [intOf]; omega⟩
              | true =>
                go_wp2_with (go_at_call 23; (with_reducible refine (hFN.out _).mono ?_); rintro e7 w6 ⟨rfl, hA⟩; have hD6 := Lib.hid (hDq.out.below hA); have hF6 := Lib.hid (hFq.out.below hA); have z1 := hD6.out.bx q i5; have z2 := hD6.out.free q; clear hA)
                refine ⟨⟨q + 1, by omega, by omega, (fun h => by cases h), by go_num, ?_, hF6.out.setCell (.inl rfl) _⟩, by simp [intOf]; omega⟩
                exact (hD6.out.put q).congr fun y _ => by
                  rw [Bool.or_assoc]
                  congr 1
                  rw [Bool.eq_iff_iff]
                  simp
                  omega
            · have e1 : decide ((q : Int) ≤ (b : Int)) = false := decide_eq_false (by omega)
              have hA9 := Lib.hid (hfin.out wr q hFq.out hDq.out hq3 (fun _ => by omega))
              go_wp2
              exact ⟨⟨k + 1, by omega, by go_num, hA9.out⟩, by simp [intOf]; omega⟩
        | true =>
          go_wp2_with (first | (go_at_call 20; (with_reducible refine (hC.out _).mono ?_); rintro e4 w2 ⟨rfl, hA⟩; have hR2 := Lib.hid (hR1.out.below hA); have hD2 := Lib.hid (hD1.out.below hA); have hs2 := Lib.hid (Nat.le_trans hs1.out hA.size); have hb2 := Lib.hid (bt hb1.out hA); have hx2 := Lib.hid (hx1.out.below hA); obtain ⟨d0, d1, d2⟩ := hx2.out; clear hA) | (go_at_call 22; (with_reducible refine (hCT.out _ hD2.out.bx).mono ?_); rintro e6 w3 ⟨rfl, hA⟩; have hR3 := Lib.hid (hR2.out.below hA); have hD3 := Lib.hid (hD2.out.below hA); have hs3 := Lib.hid (Nat.le_trans hs2.out hA.size); have hb3 := Lib.hid (bt hb2.out hA); have hx3 := Lib.hid (hx2.out.below hA); obtain ⟨t0, t1, t2⟩ := hx3.out; clear hA))
          clear d0 d1 d2 e0 e1 e2
          obtain ⟨y0, y1, y2⟩ := hx3.out
          have hfin : Hid (∀ (W : World) (q : Nat), Frm (fun k => k = w.heap.size) w3 W → DR W w.heap.size w.heap.size (fun x => f x || decide (a ≤ x ∧ x < q)) → (fin = false → q = a) → (fin = true → q = b + 1) → Hid (FI.Row W (w.heap.size + 1) (.slice va SL.length vc) (shadL l (k + 1))) ∧ Hid (DR W w.heap.size w.heap.size (fun x => doneB (l.take (k + 1)) (x : Int))) ∧ Hid (w.heap.size + 1 ≤ W.heap.size) ∧ Hid (Below w.heap.size w W)) := by
            intro W q h1 h2 h3 h4
            refine ⟨?_, ?_, Nat.le_trans hs3.out h1.size, h1.after hb3.out hb3.out.size fun q hq e => by omega⟩
            · show FI.Row W (w.heap.size + 1) (.slice va SL.length vc) (shadL l (k + 1))
              rw [hsucc.out]
              exact hR3.out.frm h1 fun g hg e => by
                have := (hR3.out.lt g hg).1
                omega
            · refine h2.congr fun y hy => ?_
              rw [hfd.out y hy]
              cases fin with
              | false =>
                rw [h3 rfl, Bool.and_false, decide_eq_false (by omega)]
              | true =>
                rw [h4 rfl, Bool.and_true]
                congr 1
                exact decide_eq_decide.2 (by omega)
          go_loopw [8] (fun i wr2 => IR w w3 f fin a b i wr2) (fun i _ => b + 1 - (intOf i).toNat)
          case atStart => exact ⟨a, Nat.le_refl _, by omega, fun _ => rfl, rfl, hD3.out.congr fun y _ => by (rw [decide_eq_false (by omega)]; simp), Frm.refl _ _⟩
          case round =>
            obtain ⟨q, hq1, hq2, hq3, rfl, hDq, hFq⟩ := hrel
            obtain ⟨s0, s1, s2⟩ := hx3.out.frm hFq.out (fun e => hKw.out e)
            clear y0 y1 y2
            have hxq := Lib.hid (hx3.out.frm hFq.out (fun e => hKw.out e))
            have i3 : (0 : Int) ≤ (q : Int) := by omega
            by_cases hqb : q ≤ b
            · have e1 : decide ((q : Int) ≤ (b : Int)) = true := decide_eq_true (by omega)
              have i4 : (q : Int) < 24 := by omega
              have i5 : q < 24 := by omega
              have hq3 := Lib.hid hq3
              cases fin with
              | false =>
                have hDq2 := hDq
                have hA9 := Lib.hid (fun W (h : Below wr.heap.size wr W) => hfin.out W q (hFq.out.below h) (hDq.out.below h) hq3.out (fun h => by cases h))
                go_wp2_with (go_at_call 23; (with_reducible refine (hFN.out _).mono ?_); rintro e7 w6 ⟨rfl, hA⟩; replace hA9 := hA9.out _ hA; clear hA)
                exact ⟨⟨k + 1, by omega, by go_num, hA9⟩, by simp [intOf]; omega⟩
              | true =>
                go_wp2_with (go_at_call 23; (with_reducible refine (hFN.out _).mono ?_); rintro e7 w6 ⟨rfl, hA⟩; have hD6 := Lib.hid (hDq.out.below hA); have hF6 := Lib.hid (hFq.out.below hA); have z1 := hD6.out.bx q i5; have z2 := hD6.out.free q; clear hA)
                refine ⟨⟨q + 1, by omega, by omega, (fun h => by cases h), by go_num, ?_, hF6.out.setCell (.inl rfl) _⟩, by simp [intOf]; omega⟩
                exact (hD6.out.put q).congr fun y _ => by
                  rw [Bool.or_assoc]
                  congr 1
                  rw [Bool.eq_iff_iff]
                  simp
                  omega
            · have e1 : decide ((q : Int) ≤ (b : Int)) = false := decide_eq_false (by omega)
              have hA9 := Lib.hid (hfin.out wr q hFq.out hDq.out hq3 (fun _ => by omega))
              go_wp2
              exact ⟨⟨k + 1, by omega, by go_num, hA9.out⟩, by simp [intOf]; omega⟩
      · have hsh := shd_bad hx hz0
        rw [if_pos hsh] at hsucc
        have hcv : ∀ y, covR x y = false := fun y => decide_eq_false fun h => hz0 h.1
        have hnz : (chkR x != 0) = true := by simpa [bne] using hz0
        have hnz1 : (chkR x == 0) = false := by simpa using hz0
        generalize chkR x = z at *
        generalize shadL l k = SL at *
        replace hsucc := Lib.hid hsucc
        replace hC := Lib.hid hC
        replace hcv := Lib.hid hcv
        clear hx hsh hz0
        go_wp2_with (first | (go_at_call 20; (with_reducible refine (hC.out _).mono ?_); rintro e4 w2 ⟨rfl, hA⟩; have hR2 := Lib.hid (hR1.out.below hA); have hD2 := Lib.hid (hD1.out.below hA); have hs2 := Lib.hid (Nat.le_trans hs1.out hA.size); have hb2 := Lib.hid (bt hb1.out hA); have hx2 := Lib.hid (hx1.out.below hA); obtain ⟨d0, d1, d2⟩ := hx2.out; clear hA) | (at_builtin; refine Fl.wpl_app FI rfl (.tmp 19) (.tmp 21) _ (w.heap.size + 1) _ _ SL [k] rfl rfl (hR2.out.below (alb _ _)) (Fl.X.lit FI _ [k] _ 1 1 rfl rfl) (by simp; omega) (Nat.le_trans hs2.out (alb _ _).size) ?_ rfl rfl; intro v5 w5 h5 h6 _; have hR5 := Lib.hid h5; replace h5 := Lib.hid h5; have hlt5 := (hR2.out.below (alb _ (.cells #[.int .i64 k] 3))).lt; have hD5 := Lib.hid ((hD2.out.below (alb _ (.cells #[.int .i64 k] 3))).frm h6 (fun e => by have := (hlt5 _ e.symm).1; omega)); have hb5 := Lib.hid (h6.after (bt hb2.out (alb _ _)) (Nat.le_trans hb2.out.size (alb _ _).size) fun q hq e => by (have := (hlt5 q e.symm).1; omega)); have hx5 := Lib.hid ((hx2.out.below (alb _ (.cells #[.int .i64 k] 3))).frm h6 hNo.out); obtain ⟨z0, z1, z2⟩ := hx5.out; have hs5 := Lib.hid (Nat.le_trans hs2.out (Nat.le_trans (alb _ (.cells #[.int .i64 k] 3)).size h6.size)); clear h6 hlt5))
        refine ⟨⟨k + 1, by omega, by go_num, by rw [hsucc.out]; exact h5, ?_, hs5, hb5⟩, by simp [intOf]; omega⟩
        exact hD5.out.congr fun y _ => by rw [hdone.out, hcv.out]; simp
    · have hd2 : decide ((k : Int) < (l.length : Int)) = false := decide_eq_false (by omega)
      have he : k = l.length := by omega
      subst he
      go_wp2
      exact hE.out _ _ (hR.out.mono (by omega)) hB.out
end Go.Proofs.YtnflnaalpeeciaaDoor
