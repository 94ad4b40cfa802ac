/-
  What words tell of a conflict (chapter 34): the law's walk.
-/
import Derived.Test.YtaddbljdheafaaaDoorRep11
namespace Go.Proofs.YtaddbljdheafaaaDoor
open Go.RowKit
set_option linter.unusedVariables false
set_option linter.unusedSimpArgs false
set_option maxRecDepth 20000

theorem vec_neq (a b : Int) (W : World) : (binOp .neq 23 (.agg #[.int .i64 a, .int .i64 b]) (.agg #[.int .i64 a, .int .i64 b])).run Tryd.prog W = .ok (.bool false) W := by simp [go_sem]
/-- the arguments' boxes, and the state made of them -/
structure FX (W : World) (A K : Nat) (p q : Int) (e : ByteArray) (r s : Int) (f : ByteArray) : Prop where
  a : V3 W A p q e
  b : V3 W (A + 1) r s f
  x : H10 W K 1 0 0 ⟨#[]⟩ p q e r s f
theorem FX.below {W W' : World} {A K : Nat} {p q : Int} {e : ByteArray} {r s : Int} {f : ByteArray} (h : FX W A K p q e r s f) (hb : Below W.heap.size W W') : FX W' A K p q e r s f := ⟨h.a.below hb, h.b.below hb, h.x.below hb⟩
theorem two_new (W : World) (a b c d : Int) : V2 ((W.alloc (.cells #[.int .i64 a, .int .i64 b] 23)).alloc (.cells #[.int .i64 c, .int .i64 d] 23)) W.heap.size a b ∧ V2 ((W.alloc (.cells #[.int .i64 a, .int .i64 b] 23)).alloc (.cells #[.int .i64 c, .int .i64 d] 23)) (W.heap.size + 1) c d := by
  refine ⟨(V2.new W a b).below (alb _ _), ?_⟩
  have := V2.new (W.alloc (.cells #[.int .i64 a, .int .i64 b] 23)) c d
  rwa [show (W.alloc (.cells #[.int .i64 a, .int .i64 b] 23)).heap.size = W.heap.size + 1 by simp] at this
set_option maxHeartbeats 6400000 in
theorem walk_ReportReads (t : ByteArray) (ut : t.size ≤ 140737488351232) (ex : Int) (ux : (Lit.int .i64 ex).wf = true) (p q : Int) (e : ByteArray) (up : (Lit.int .i64 p).wf = true) (uq : (Lit.int .i64 q).wf = true) (ue : e.size ≤ maxLen) (r s : Int) (f : ByteArray) (ur : (Lit.int .i64 r).wf = true) (us : (Lit.int .i64 s).wf = true) (uf : f.size ≤ maxLen) {w : World} (hm : ML w) :
    Calls Tryd.prog 3 #[.string t, .int .i64 ex, .agg #[.int .i64 p, .int .i64 q, .string e], .agg #[.int .i64 r, .int .i64 s, .string f]] w fun e' w' => e' = .returned (.bool true) ∧ Below w.heap.size w w' := by
  have hE : ∀ W, Below w.heap.size w W → (fun (e' : Ending) (w' : World) => e' = .returned (.bool true) ∧ Below w.heap.size w w') (.returned (.bool true)) W := fun W h => ⟨rfl, h⟩
  generalize (fun (e' : Ending) (w' : World) => e' = .returned (.bool true) ∧ Below w.heap.size w w') = Pst at *
  replace hE := Lib.hid hE
  have hSt := fun W => state_any ex 1 0 0 ⟨#[]⟩ p q e r s f W (i64_wf ux) ⟨by decide, by decide⟩ ⟨by decide, by decide⟩ (i64_wf up) (i64_wf uq) (i64_wf ur) (i64_wf us) (by decide) ue uf
  have hSz : (stS ex 1 0 0 ⟨#[]⟩ p q e r s f).size ≤ 4000 := by
    have h0 : stS ex 1 0 0 ⟨#[]⟩ p q e r s f = jn (clashL ex p q e r s f) := if_pos rfl
    rw [h0]
    have := clash_size ex p q e r s f
    omega
  have hRb := fun W h => read_conf (stS ex 1 0 0 ⟨#[]⟩ p q e r s f) W hSz h
  unfold RE at hRb
  rw [rd_back ex p q e r s f (i64_wf ux) (i64_wf up) (i64_wf uq) (i64_wf ur) (i64_wf us)] at hRb
  have hGr := fun W => great_any 1 0 0 ⟨#[]⟩ p q e r s f W
  have hR1 := fun W => rright_any p q W
  have hR2 := fun W => rright_any r s W
  generalize stS ex 1 0 0 ⟨#[]⟩ p q e r s f = S at *
  generalize greatB ⟨#[]⟩ e f = gb at *
  generalize hgp : rightB p q = g1 at *
  generalize hgr : rightB r s = g2 at *
  have hbo : Hid (∀ o1 o2, o1 = Obj.cells #[.int .i64 p, .int .i64 q, .string e] 25 → o2 = Obj.cells #[.int .i64 r, .int .i64 s, .string f] 25 → V3 ((w.alloc o1).alloc o2) w.heap.size p q e ∧ V3 ((w.alloc o1).alloc o2) (w.heap.size + 1) r s f ∧ Below w.heap.size w ((w.alloc o1).alloc o2) ∧ ML ((w.alloc o1).alloc o2)) := by
    rintro o1 o2 rfl rfl
    have hz := bt (alb w (.cells #[.int .i64 p, .int .i64 q, .string e] 25)) (alb _ (.cells #[.int .i64 r, .int .i64 s, .string f] 25))
    refine ⟨(V3.new w 25 p q e).below (alb _ _), ?_, hz, hm.below hz⟩
    have := V3.new (w.alloc (.cells #[.int .i64 p, .int .i64 q, .string e] 25)) 25 r s f
    rwa [show (w.alloc (.cells #[.int .i64 p, .int .i64 q, .string e] 25)).heap.size = w.heap.size + 1 by simp] at this
  replace hbo := hbo.out _ _ rfl rfl
  generalize hWW : (w.alloc (.cells #[.int .i64 p, .int .i64 q, .string e] 25)).alloc (.cells #[.int .i64 r, .int .i64 s, .string f] 25) = W0 at *
  have hwk := Lib.hid (works_any W0 hbo.2.2.2)
  replace hbo := Lib.hid hbo
  have hveq := vec_eql
  have hvne := vec_neq
  clear hm ux up uq ue ur us uf hgp hgr
  replace hSt := Lib.hid hSt
  replace hGr := Lib.hid hGr
  replace hR1 := Lib.hid hR1
  replace hR2 := Lib.hid hR2
  by_cases hbig : 2000 < t.size
  · have d1 : decide ((2000 : Int) < (t.size : Int)) = true := decide_eq_true (by omega)
    have d2 : decide (2000 < t.size) = true := decide_eq_true hbig
    clear hRb
    go_enter Tryd.func3, Tryd.ntmps3
    go_wp2_with (go_at_call 6; (with_reducible refine hwk.out.mono ?_); rintro e1 w1 ⟨rfl, hA⟩; have hV := Lib.hid (And.intro (hbo.out.1.below hA) (hbo.out.2.1.below hA)); have hm1 := Lib.hid (hbo.out.2.2.2.below hA); have hb := Lib.hid (bt hbo.out.2.2.1 hA); obtain ⟨a0, a1, a2⟩ := hV.out.1; obtain ⟨b0, b1, b2⟩ := hV.out.2; have hz := alb w1 (.cells #[.int .i64 1, .int .i64 0, .int .i64 0, .string ⟨#[]⟩, .int .i64 p, .int .i64 q, .string e, .int .i64 r, .int .i64 s, .string f] 28); have hF := Lib.hid (FX.mk (hV.out.1.below hz) (hV.out.2.below hz) (H10.new w1 28 1 0 0 ⟨#[]⟩ p q e r s f)); replace hm1 := Lib.hid (hm1.out.below hz); replace hb := Lib.hid (bt hb.out hz); clear hz hA hwk; obtain ⟨c0, c1, c2, c3, c4, c5, c6, c7, c8, c9⟩ := hF.out.x)
    exact hE.out _ hb.out
  have d1 : decide ((2000 : Int) < (t.size : Int)) = false := decide_eq_false (by omega)
  have d2 : decide (2000 < t.size) = false := decide_eq_false hbig
  have hRd := fun W h => read_conf t W (by omega) h
  have hRr := fun W h => rread_conf t W (by omega) h
  unfold RE at hRd hRr
  obtain ⟨n, A, B, C, D, E, hrf⟩ := rd_form (cuts t)
  rw [hrf] at hRd hRr
  clear hrf
  replace hRd := Lib.hid hRd
  replace hRr := Lib.hid hRr
  cases gb with
  | true =>
    clear hRb
    go_enter Tryd.func3, Tryd.ntmps3
    go_wp2_with (first | (go_at_call 6; (with_reducible refine hwk.out.mono ?_); rintro e1 w1 ⟨rfl, hA⟩; have hV := Lib.hid (And.intro (hbo.out.1.below hA) (hbo.out.2.1.below hA)); have hm1 := Lib.hid (hbo.out.2.2.2.below hA); have hb := Lib.hid (bt hbo.out.2.2.1 hA); obtain ⟨a0, a1, a2⟩ := hV.out.1; obtain ⟨b0, b1, b2⟩ := hV.out.2; have hz := alb w1 (.cells #[.int .i64 1, .int .i64 0, .int .i64 0, .string ⟨#[]⟩, .int .i64 p, .int .i64 q, .string e, .int .i64 r, .int .i64 s, .string f] 28); have hF := Lib.hid (FX.mk (hV.out.1.below hz) (hV.out.2.below hz) (H10.new w1 28 1 0 0 ⟨#[]⟩ p q e r s f)); replace hm1 := Lib.hid (hm1.out.below hz); replace hb := Lib.hid (bt hb.out hz); clear hz hA hwk; obtain ⟨c0, c1, c2, c3, c4, c5, c6, c7, c8, c9⟩ := hF.out.x) | (go_at_call 7; (with_reducible refine (hGr.out _).mono ?_); rintro e2 w2 ⟨rfl, hA⟩; replace hF := Lib.hid (hF.out.below hA); replace hm1 := Lib.hid (hm1.out.below hA); replace hb := Lib.hid (bt hb.out hA); clear hA c0 c1 c2 c3 c4 c5 c6 c7 c8 c9 a0 a1 a2 b0 b1 b2))
    exact hE.out _ hb.out
  | false =>
    by_cases hx : 0 ≤ ex
    · have d3 : decide (ex < 0) = false := decide_eq_false (by omega)
      have d4 : decide (0 ≤ ex) = true := decide_eq_true hx
      rw [d4] at hRb
      cases g1 with
      | false =>
        simp only [Bool.and_false, Bool.false_and, Bool.true_and, Bool.false_eq_true, if_false, badV] at hRb
        replace hRb := Lib.hid hRb
        go_enter Tryd.func3, Tryd.ntmps3
        go_wp2_with (first | (go_at_call 6; (with_reducible refine hwk.out.mono ?_); rintro e1 w1 ⟨rfl, hA⟩; have hV := Lib.hid (And.intro (hbo.out.1.below hA) (hbo.out.2.1.below hA)); have hm1 := Lib.hid (hbo.out.2.2.2.below hA); have hb := Lib.hid (bt hbo.out.2.2.1 hA); obtain ⟨a0, a1, a2⟩ := hV.out.1; obtain ⟨b0, b1, b2⟩ := hV.out.2; have hz := alb w1 (.cells #[.int .i64 1, .int .i64 0, .int .i64 0, .string ⟨#[]⟩, .int .i64 p, .int .i64 q, .string e, .int .i64 r, .int .i64 s, .string f] 28); have hF := Lib.hid (FX.mk (hV.out.1.below hz) (hV.out.2.below hz) (H10.new w1 28 1 0 0 ⟨#[]⟩ p q e r s f)); replace hm1 := Lib.hid (hm1.out.below hz); replace hb := Lib.hid (bt hb.out hz); clear hz hA hwk; obtain ⟨c0, c1, c2, c3, c4, c5, c6, c7, c8, c9⟩ := hF.out.x) | (go_at_call 7; (with_reducible refine (hGr.out _).mono ?_); rintro e2 w2 ⟨rfl, hA⟩; replace hF := Lib.hid (hF.out.below hA); replace hm1 := Lib.hid (hm1.out.below hA); replace hb := Lib.hid (bt hb.out hA); clear hA c0 c1 c2 c3 c4 c5 c6 c7 c8 c9 a0 a1 a2 b0 b1 b2) | (go_at_call 8; (with_reducible refine (hRd.out _ hm1.out).mono ?_); rintro e3 w3 ⟨rfl, hA⟩; have hz := bt (alb w3 (.cells #[.int .i64 A, .int .i64 B] 23)) (alb _ (.cells #[.int .i64 C, .int .i64 D] 23)); have ht := Lib.hid (two_new w3 A B C D); replace hF := Lib.hid ((hF.out.below hA).below hz); replace hm1 := Lib.hid ((hm1.out.below hA).below hz); replace hb := Lib.hid (bt (bt hb.out hA) hz); clear hA hz) | (go_at_call 9; (with_reducible refine (hRr.out _ hm1.out).mono ?_); rintro e4 w4 ⟨rfl, hA⟩; have hz := bt (alb w4 (.cells #[.int .i64 A, .int .i64 B] 23)) (alb _ (.cells #[.int .i64 C, .int .i64 D] 23)); have hu := Lib.hid (two_new w4 A B C D); replace ht := Lib.hid (And.intro ((ht.out.1.below hA).below hz) ((ht.out.2.below hA).below hz)); replace hF := Lib.hid ((hF.out.below hA).below hz); replace hm1 := Lib.hid ((hm1.out.below hA).below hz); replace hb := Lib.hid (bt (bt hb.out hA) hz); clear hA hz; have y0 := ht.out.1.c0; have y1 := ht.out.1.c1; have y2 := ht.out.2.c0; have y3 := ht.out.2.c1; have y4 := hu.out.1.c0; have y5 := hu.out.1.c1; have y6 := hu.out.2.c0; have y7 := hu.out.2.c1; obtain ⟨c0, c1, c2, c3, c4, c5, c6, c7, c8, c9⟩ := hF.out.x) | (go_at_call 10; (with_reducible refine (hSt.out _).mono ?_); rintro e5 w5 ⟨rfl, hA⟩; replace hF := Lib.hid (hF.out.below hA); replace hm1 := Lib.hid (hm1.out.below hA); replace hb := Lib.hid (bt hb.out hA); clear hA y0 y1 y2 y3 y4 y5 y6 y7 c0 c1 c2 c3 c4 c5 c6 c7 c8 c9 ht hu) | (go_at_call 8; (with_reducible refine (hRb.out _ hm1.out).mono ?_); rintro e6 w6 ⟨rfl, hA⟩; have hz := bt (alb w6 (.cells #[.int .i64 0, .int .i64 0] 23)) (alb _ (.cells #[.int .i64 0, .int .i64 0] 23)); have ht := Lib.hid (two_new w6 0 0 0 0); replace hF := Lib.hid ((hF.out.below hA).below hz); replace hb := Lib.hid (bt (bt hb.out hA) hz); clear hA hz; obtain ⟨a0, a1, a2⟩ := hF.out.a; obtain ⟨b0, b1, b2⟩ := hF.out.b; have y0 := ht.out.1.c0; have y1 := ht.out.1.c1; have y2 := ht.out.2.c0; have y3 := ht.out.2.c1) | (go_at_call 11; (with_reducible refine (hR1.out _).mono ?_); rintro e7 w7 ⟨rfl, hA⟩; replace hF := Lib.hid (hF.out.below hA); replace ht := Lib.hid (And.intro (ht.out.1.below hA) (ht.out.2.below hA)); replace hb := Lib.hid (bt hb.out hA); clear hA a0 a1 a2 b0 b1 b2 y0 y1 y2 y3; obtain ⟨a0, a1, a2⟩ := hF.out.a; obtain ⟨b0, b1, b2⟩ := hF.out.b; have y0 := ht.out.1.c0; have y1 := ht.out.1.c1; have y2 := ht.out.2.c0; have y3 := ht.out.2.c1))
        exact hE.out _ hb.out
      | true =>
        cases g2 with
        | false =>
          simp only [Bool.and_false, Bool.false_and, Bool.true_and, Bool.false_eq_true, if_false, badV] at hRb
          replace hRb := Lib.hid hRb
          go_enter Tryd.func3, Tryd.ntmps3
          go_wp2_with (first | (go_at_call 6; (with_reducible refine hwk.out.mono ?_); rintro e1 w1 ⟨rfl, hA⟩; have hV := Lib.hid (And.intro (hbo.out.1.below hA) (hbo.out.2.1.below hA)); have hm1 := Lib.hid (hbo.out.2.2.2.below hA); have hb := Lib.hid (bt hbo.out.2.2.1 hA); obtain ⟨a0, a1, a2⟩ := hV.out.1; obtain ⟨b0, b1, b2⟩ := hV.out.2; have hz := alb w1 (.cells #[.int .i64 1, .int .i64 0, .int .i64 0, .string ⟨#[]⟩, .int .i64 p, .int .i64 q, .string e, .int .i64 r, .int .i64 s, .string f] 28); have hF := Lib.hid (FX.mk (hV.out.1.below hz) (hV.out.2.below hz) (H10.new w1 28 1 0 0 ⟨#[]⟩ p q e r s f)); replace hm1 := Lib.hid (hm1.out.below hz); replace hb := Lib.hid (bt hb.out hz); clear hz hA hwk; obtain ⟨c0, c1, c2, c3, c4, c5, c6, c7, c8, c9⟩ := hF.out.x) | (go_at_call 7; (with_reducible refine (hGr.out _).mono ?_); rintro e2 w2 ⟨rfl, hA⟩; replace hF := Lib.hid (hF.out.below hA); replace hm1 := Lib.hid (hm1.out.below hA); replace hb := Lib.hid (bt hb.out hA); clear hA c0 c1 c2 c3 c4 c5 c6 c7 c8 c9 a0 a1 a2 b0 b1 b2) | (go_at_call 8; (with_reducible refine (hRd.out _ hm1.out).mono ?_); rintro e3 w3 ⟨rfl, hA⟩; have hz := bt (alb w3 (.cells #[.int .i64 A, .int .i64 B] 23)) (alb _ (.cells #[.int .i64 C, .int .i64 D] 23)); have ht := Lib.hid (two_new w3 A B C D); replace hF := Lib.hid ((hF.out.below hA).below hz); replace hm1 := Lib.hid ((hm1.out.below hA).below hz); replace hb := Lib.hid (bt (bt hb.out hA) hz); clear hA hz) | (go_at_call 9; (with_reducible refine (hRr.out _ hm1.out).mono ?_); rintro e4 w4 ⟨rfl, hA⟩; have hz := bt (alb w4 (.cells #[.int .i64 A, .int .i64 B] 23)) (alb _ (.cells #[.int .i64 C, .int .i64 D] 23)); have hu := Lib.hid (two_new w4 A B C D); replace ht := Lib.hid (And.intro ((ht.out.1.below hA).below hz) ((ht.out.2.below hA).below hz)); replace hF := Lib.hid ((hF.out.below hA).below hz); replace hm1 := Lib.hid ((hm1.out.below hA).below hz); replace hb := Lib.hid (bt (bt hb.out hA) hz); clear hA hz; have y0 := ht.out.1.c0; have y1 := ht.out.1.c1; have y2 := ht.out.2.c0; have y3 := ht.out.2.c1; have y4 := hu.out.1.c0; have y5 := hu.out.1.c1; have y6 := hu.out.2.c0; have y7 := hu.out.2.c1; obtain ⟨c0, c1, c2, c3, c4, c5, c6, c7, c8, c9⟩ := hF.out.x) | (go_at_call 10; (with_reducible refine (hSt.out _).mono ?_); rintro e5 w5 ⟨rfl, hA⟩; replace hF := Lib.hid (hF.out.below hA); replace hm1 := Lib.hid (hm1.out.below hA); replace hb := Lib.hid (bt hb.out hA); clear hA y0 y1 y2 y3 y4 y5 y6 y7 c0 c1 c2 c3 c4 c5 c6 c7 c8 c9 ht hu) | (go_at_call 8; (with_reducible refine (hRb.out _ hm1.out).mono ?_); rintro e6 w6 ⟨rfl, hA⟩; have hz := bt (alb w6 (.cells #[.int .i64 0, .int .i64 0] 23)) (alb _ (.cells #[.int .i64 0, .int .i64 0] 23)); have ht := Lib.hid (two_new w6 0 0 0 0); replace hF := Lib.hid ((hF.out.below hA).below hz); replace hb := Lib.hid (bt (bt hb.out hA) hz); clear hA hz; obtain ⟨a0, a1, a2⟩ := hF.out.a; obtain ⟨b0, b1, b2⟩ := hF.out.b; have y0 := ht.out.1.c0; have y1 := ht.out.1.c1; have y2 := ht.out.2.c0; have y3 := ht.out.2.c1) | (go_at_call 11; (with_reducible refine (hR1.out _).mono ?_); rintro e7 w7 ⟨rfl, hA⟩; replace hF := Lib.hid (hF.out.below hA); replace ht := Lib.hid (And.intro (ht.out.1.below hA) (ht.out.2.below hA)); replace hb := Lib.hid (bt hb.out hA); clear hA a0 a1 a2 b0 b1 b2 y0 y1 y2 y3; obtain ⟨a0, a1, a2⟩ := hF.out.a; obtain ⟨b0, b1, b2⟩ := hF.out.b; have y0 := ht.out.1.c0; have y1 := ht.out.1.c1; have y2 := ht.out.2.c0; have y3 := ht.out.2.c1) | (go_at_call 11; (with_reducible refine (hR2.out _).mono ?_); rintro e7 w7 ⟨rfl, hA⟩; replace hF := Lib.hid (hF.out.below hA); replace ht := Lib.hid (And.intro (ht.out.1.below hA) (ht.out.2.below hA)); replace hb := Lib.hid (bt hb.out hA); clear hA a0 a1 a2 b0 b1 b2 y0 y1 y2 y3; obtain ⟨a0, a1, a2⟩ := hF.out.a; obtain ⟨b0, b1, b2⟩ := hF.out.b; have y0 := ht.out.1.c0; have y1 := ht.out.1.c1; have y2 := ht.out.2.c0; have y3 := ht.out.2.c1))
          exact hE.out _ hb.out
        | true =>
          simp only [Bool.and_true, Bool.true_and, if_true] at hRb
          replace hRb := Lib.hid hRb
          go_enter Tryd.func3, Tryd.ntmps3
          go_wp2_with (first | (go_at_call 6; (with_reducible refine hwk.out.mono ?_); rintro e1 w1 ⟨rfl, hA⟩; have hV := Lib.hid (And.intro (hbo.out.1.below hA) (hbo.out.2.1.below hA)); have hm1 := Lib.hid (hbo.out.2.2.2.below hA); have hb := Lib.hid (bt hbo.out.2.2.1 hA); obtain ⟨a0, a1, a2⟩ := hV.out.1; obtain ⟨b0, b1, b2⟩ := hV.out.2; have hz := alb w1 (.cells #[.int .i64 1, .int .i64 0, .int .i64 0, .string ⟨#[]⟩, .int .i64 p, .int .i64 q, .string e, .int .i64 r, .int .i64 s, .string f] 28); have hF := Lib.hid (FX.mk (hV.out.1.below hz) (hV.out.2.below hz) (H10.new w1 28 1 0 0 ⟨#[]⟩ p q e r s f)); replace hm1 := Lib.hid (hm1.out.below hz); replace hb := Lib.hid (bt hb.out hz); clear hz hA hwk; obtain ⟨c0, c1, c2, c3, c4, c5, c6, c7, c8, c9⟩ := hF.out.x) | (go_at_call 7; (with_reducible refine (hGr.out _).mono ?_); rintro e2 w2 ⟨rfl, hA⟩; replace hF := Lib.hid (hF.out.below hA); replace hm1 := Lib.hid (hm1.out.below hA); replace hb := Lib.hid (bt hb.out hA); clear hA c0 c1 c2 c3 c4 c5 c6 c7 c8 c9 a0 a1 a2 b0 b1 b2) | (go_at_call 8; (with_reducible refine (hRd.out _ hm1.out).mono ?_); rintro e3 w3 ⟨rfl, hA⟩; have hz := bt (alb w3 (.cells #[.int .i64 A, .int .i64 B] 23)) (alb _ (.cells #[.int .i64 C, .int .i64 D] 23)); have ht := Lib.hid (two_new w3 A B C D); replace hF := Lib.hid ((hF.out.below hA).below hz); replace hm1 := Lib.hid ((hm1.out.below hA).below hz); replace hb := Lib.hid (bt (bt hb.out hA) hz); clear hA hz) | (go_at_call 9; (with_reducible refine (hRr.out _ hm1.out).mono ?_); rintro e4 w4 ⟨rfl, hA⟩; have hz := bt (alb w4 (.cells #[.int .i64 A, .int .i64 B] 23)) (alb _ (.cells #[.int .i64 C, .int .i64 D] 23)); have hu := Lib.hid (two_new w4 A B C D); replace ht := Lib.hid (And.intro ((ht.out.1.below hA).below hz) ((ht.out.2.below hA).below hz)); replace hF := Lib.hid ((hF.out.below hA).below hz); replace hm1 := Lib.hid ((hm1.out.below hA).below hz); replace hb := Lib.hid (bt (bt hb.out hA) hz); clear hA hz; have y0 := ht.out.1.c0; have y1 := ht.out.1.c1; have y2 := ht.out.2.c0; have y3 := ht.out.2.c1; have y4 := hu.out.1.c0; have y5 := hu.out.1.c1; have y6 := hu.out.2.c0; have y7 := hu.out.2.c1; obtain ⟨c0, c1, c2, c3, c4, c5, c6, c7, c8, c9⟩ := hF.out.x) | (go_at_call 10; (with_reducible refine (hSt.out _).mono ?_); rintro e5 w5 ⟨rfl, hA⟩; replace hF := Lib.hid (hF.out.below hA); replace hm1 := Lib.hid (hm1.out.below hA); replace hb := Lib.hid (bt hb.out hA); clear hA y0 y1 y2 y3 y4 y5 y6 y7 c0 c1 c2 c3 c4 c5 c6 c7 c8 c9 ht hu) | (go_at_call 8; (with_reducible refine (hRb.out _ hm1.out).mono ?_); rintro e6 w6 ⟨rfl, hA⟩; have hz := bt (alb w6 (.cells #[.int .i64 p, .int .i64 q] 23)) (alb _ (.cells #[.int .i64 r, .int .i64 s] 23)); have ht := Lib.hid (two_new w6 p q r s); replace hF := Lib.hid ((hF.out.below hA).below hz); replace hb := Lib.hid (bt (bt hb.out hA) hz); clear hA hz; obtain ⟨a0, a1, a2⟩ := hF.out.a; obtain ⟨b0, b1, b2⟩ := hF.out.b; have y0 := ht.out.1.c0; have y1 := ht.out.1.c1; have y2 := ht.out.2.c0; have y3 := ht.out.2.c1) | (go_at_call 11; (with_reducible refine (hR1.out _).mono ?_); rintro e7 w7 ⟨rfl, hA⟩; replace hF := Lib.hid (hF.out.below hA); replace ht := Lib.hid (And.intro (ht.out.1.below hA) (ht.out.2.below hA)); replace hb := Lib.hid (bt hb.out hA); clear hA a0 a1 a2 b0 b1 b2 y0 y1 y2 y3; obtain ⟨a0, a1, a2⟩ := hF.out.a; obtain ⟨b0, b1, b2⟩ := hF.out.b; have y0 := ht.out.1.c0; have y1 := ht.out.1.c1; have y2 := ht.out.2.c0; have y3 := ht.out.2.c1) | (go_at_call 11; (with_reducible refine (hR2.out _).mono ?_); rintro e7 w7 ⟨rfl, hA⟩; replace hF := Lib.hid (hF.out.below hA); replace ht := Lib.hid (And.intro (ht.out.1.below hA) (ht.out.2.below hA)); replace hb := Lib.hid (bt hb.out hA); clear hA a0 a1 a2 b0 b1 b2 y0 y1 y2 y3; obtain ⟨a0, a1, a2⟩ := hF.out.a; obtain ⟨b0, b1, b2⟩ := hF.out.b; have y0 := ht.out.1.c0; have y1 := ht.out.1.c1; have y2 := ht.out.2.c0; have y3 := ht.out.2.c1))
          exact hE.out _ hb.out
    · have d3 : decide (ex < 0) = true := decide_eq_true (by omega)
      have d4 : decide (0 ≤ ex) = false := decide_eq_false hx
      rw [d4] at hRb
      simp only [Bool.and_false, Bool.false_and, Bool.true_and, Bool.false_eq_true, if_false, badV] at hRb
      replace hRb := Lib.hid hRb
      go_enter Tryd.func3, Tryd.ntmps3
      go_wp2_with (first | (go_at_call 6; (with_reducible refine hwk.out.mono ?_); rintro e1 w1 ⟨rfl, hA⟩; have hV := Lib.hid (And.intro (hbo.out.1.below hA) (hbo.out.2.1.below hA)); have hm1 := Lib.hid (hbo.out.2.2.2.below hA); have hb := Lib.hid (bt hbo.out.2.2.1 hA); obtain ⟨a0, a1, a2⟩ := hV.out.1; obtain ⟨b0, b1, b2⟩ := hV.out.2; have hz := alb w1 (.cells #[.int .i64 1, .int .i64 0, .int .i64 0, .string ⟨#[]⟩, .int .i64 p, .int .i64 q, .string e, .int .i64 r, .int .i64 s, .string f] 28); have hF := Lib.hid (FX.mk (hV.out.1.below hz) (hV.out.2.below hz) (H10.new w1 28 1 0 0 ⟨#[]⟩ p q e r s f)); replace hm1 := Lib.hid (hm1.out.below hz); replace hb := Lib.hid (bt hb.out hz); clear hz hA hwk; obtain ⟨c0, c1, c2, c3, c4, c5, c6, c7, c8, c9⟩ := hF.out.x) | (go_at_call 7; (with_reducible refine (hGr.out _).mono ?_); rintro e2 w2 ⟨rfl, hA⟩; replace hF := Lib.hid (hF.out.below hA); replace hm1 := Lib.hid (hm1.out.below hA); replace hb := Lib.hid (bt hb.out hA); clear hA c0 c1 c2 c3 c4 c5 c6 c7 c8 c9 a0 a1 a2 b0 b1 b2) | (go_at_call 8; (with_reducible refine (hRd.out _ hm1.out).mono ?_); rintro e3 w3 ⟨rfl, hA⟩; have hz := bt (alb w3 (.cells #[.int .i64 A, .int .i64 B] 23)) (alb _ (.cells #[.int .i64 C, .int .i64 D] 23)); have ht := Lib.hid (two_new w3 A B C D); replace hF := Lib.hid ((hF.out.below hA).below hz); replace hm1 := Lib.hid ((hm1.out.below hA).below hz); replace hb := Lib.hid (bt (bt hb.out hA) hz); clear hA hz) | (go_at_call 9; (with_reducible refine (hRr.out _ hm1.out).mono ?_); rintro e4 w4 ⟨rfl, hA⟩; have hz := bt (alb w4 (.cells #[.int .i64 A, .int .i64 B] 23)) (alb _ (.cells #[.int .i64 C, .int .i64 D] 23)); have hu := Lib.hid (two_new w4 A B C D); replace ht := Lib.hid (And.intro ((ht.out.1.below hA).below hz) ((ht.out.2.below hA).below hz)); replace hF := Lib.hid ((hF.out.below hA).below hz); replace hm1 := Lib.hid ((hm1.out.below hA).below hz); replace hb := Lib.hid (bt (bt hb.out hA) hz); clear hA hz; have y0 := ht.out.1.c0; have y1 := ht.out.1.c1; have y2 := ht.out.2.c0; have y3 := ht.out.2.c1; have y4 := hu.out.1.c0; have y5 := hu.out.1.c1; have y6 := hu.out.2.c0; have y7 := hu.out.2.c1; obtain ⟨c0, c1, c2, c3, c4, c5, c6, c7, c8, c9⟩ := hF.out.x) | (go_at_call 10; (with_reducible refine (hSt.out _).mono ?_); rintro e5 w5 ⟨rfl, hA⟩; replace hF := Lib.hid (hF.out.below hA); replace hm1 := Lib.hid (hm1.out.below hA); replace hb := Lib.hid (bt hb.out hA); clear hA y0 y1 y2 y3 y4 y5 y6 y7 c0 c1 c2 c3 c4 c5 c6 c7 c8 c9 ht hu) | (go_at_call 8; (with_reducible refine (hRb.out _ hm1.out).mono ?_); rintro e6 w6 ⟨rfl, hA⟩; have hz := bt (alb w6 (.cells #[.int .i64 0, .int .i64 0] 23)) (alb _ (.cells #[.int .i64 0, .int .i64 0] 23)); have ht := Lib.hid (two_new w6 0 0 0 0); replace hF := Lib.hid ((hF.out.below hA).below hz); replace hb := Lib.hid (bt (bt hb.out hA) hz); clear hA hz; obtain ⟨a0, a1, a2⟩ := hF.out.a; obtain ⟨b0, b1, b2⟩ := hF.out.b; have y0 := ht.out.1.c0; have y1 := ht.out.1.c1; have y2 := ht.out.2.c0; have y3 := ht.out.2.c1))
      exact hE.out _ hb.out
end Go.Proofs.YtaddbljdheafaaaDoor
