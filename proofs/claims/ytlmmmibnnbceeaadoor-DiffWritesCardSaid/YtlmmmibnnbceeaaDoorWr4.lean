/-
  The part that a word says (chapter 41): the program's walk.
-/
import Derived.Test.YtlmmmibnnbceeaaDoorWr3
import Derived.Deep.Cut
namespace Go.Proofs.YtlmmmibnnbceeaaDoor
open Go.RowKit
set_option linter.unusedVariables false
set_option linter.unusedSimpArgs false
set_option maxRecDepth 20000

/-- where the library's own variable holds a number -/
def MLn (w : World) : Prop := ∃ m : Int, w.cell? ⟨0, 0, none⟩ = some (.int .i64 m)
theorem MLn.below {w w' : World} (h : MLn w) (hb : Below w.heap.size w w') : MLn w' := by
  obtain ⟨m, hm⟩ := h
  exact ⟨m, bkeep hb hm⟩
def P3B (W : World) (K : Nat) (a b c : Int) : Prop := W.heap[K]? = some (.cells #[.int .i64 a, .int .i64 b, .int .i64 c] 42 (0, 0))
theorem P3B.c0 {W : World} {K : Nat} {a b c : Int} (h : P3B W K a b c) : W.cell? ⟨K, 0, none⟩ = some (.int .i64 a) := cell_of_row W K 0 _ _ _ h
theorem P3B.c1 {W : World} {K : Nat} {a b c : Int} (h : P3B W K a b c) : W.cell? ⟨K, 1, none⟩ = some (.int .i64 b) := cell_of_row W K 1 _ _ _ h
theorem P3B.c2 {W : World} {K : Nat} {a b c : Int} (h : P3B W K a b c) : W.cell? ⟨K, 2, none⟩ = some (.int .i64 c) := cell_of_row W K 2 _ _ _ h
theorem P3B.free {W : World} {K : Nat} {a b c : Int} (h : P3B W K a b c) (j : Nat) : W.frozen? ⟨K, j, none⟩ = false := frozen_of_row W K j _ _ h
theorem P3B.below {W W' : World} {K : Nat} {a b c : Int} (h : P3B W K a b c) (hb : Below W.heap.size W W') : P3B W' K a b c := (hb.block K (Array.getElem?_eq_some_iff.1 h).1).trans h
theorem P3B.put0 {W : World} {K : Nat} {a b c : Int} (h : P3B W K a b c) (v : Int) : P3B (W.setCell ⟨K, 0, none⟩ (.int .i64 v)) K v b c := heap_setCell_same W K 0 _ _ (.int .i64 v) h
theorem P3B.put1 {W : World} {K : Nat} {a b c : Int} (h : P3B W K a b c) (v : Int) : P3B (W.setCell ⟨K, 1, none⟩ (.int .i64 v)) K a v c := heap_setCell_same W K 1 _ _ (.int .i64 v) h
theorem P3B.put2 {W : World} {K : Nat} {a b c : Int} (h : P3B W K a b c) (v : Int) : P3B (W.setCell ⟨K, 2, none⟩ (.int .i64 v)) K a b v := heap_setCell_same W K 2 _ _ (.int .i64 v) h
theorem P3B.other {W : World} {K J : Nat} {a b c : Int} (h : P3B W K a b c) (hne : K ≠ J) (j : Nat) (v : Value) : P3B (W.setCell ⟨J, j, none⟩ v) K a b c := by
  unfold P3B
  rw [heap_setCell_other _ ⟨J, j, none⟩ K _ hne]
  exact h
theorem P3B.new (W : World) (a b c : Int) : P3B (W.alloc (.cells #[.int .i64 a, .int .i64 b, .int .i64 c] 42)) W.heap.size a b c := heap_alloc_new W _
/-- both boxes of a call, and that nothing older has turned -/
structure TB (w W : World) (a b c d e f : Int) : Prop where
  r : P3B W w.heap.size a b c
  p : P3B W (w.heap.size + 1) d e f
  bel : Below w.heap.size w W
theorem TB.pp {w W : World} {a b c d e f : Int} (h : TB w W a b c d e f) (x y : Int) : TB w ((W.setCell ⟨w.heap.size + 1, 0, none⟩ (.int .i64 x)).setCell ⟨w.heap.size + 1, 1, none⟩ (.int .i64 y)) a b c x y f :=
  ⟨(h.r.other (by omega) _ _).other (by omega) _ _, (h.p.put0 x).put1 y, (h.bel.setCell (p := ⟨w.heap.size + 1, 0, none⟩) (Nat.le_succ _) _).setCell (p := ⟨w.heap.size + 1, 1, none⟩) (Nat.le_succ _) _⟩
theorem TB.ps {w W : World} {a b c d e f : Int} (h : TB w W a b c d e f) (x : Int) : TB w (W.setCell ⟨w.heap.size + 1, 2, none⟩ (.int .i64 x)) a b c d e x :=
  ⟨h.r.other (by omega) _ _, h.p.put2 x, h.bel.setCell (p := ⟨w.heap.size + 1, 2, none⟩) (Nat.le_succ _) _⟩
theorem TB.pr {w W : World} {a b c d e f : Int} (h : TB w W a b c d e f) (x y z : Int) : TB w (((W.setCell ⟨w.heap.size, 0, none⟩ (.int .i64 x)).setCell ⟨w.heap.size, 1, none⟩ (.int .i64 y)).setCell ⟨w.heap.size, 2, none⟩ (.int .i64 z)) x y z d e f :=
  ⟨((h.r.put0 x).put1 y).put2 z, ((h.p.other (by omega) _ _).other (by omega) _ _).other (by omega) _ _, ((h.bel.setCell (p := ⟨w.heap.size, 0, none⟩) (Nat.le_refl _) _).setCell (p := ⟨w.heap.size, 1, none⟩) (Nat.le_refl _) _).setCell (p := ⟨w.heap.size, 2, none⟩) (Nat.le_refl _) _⟩
def ptV (x : I3) : Value := .agg #[.int .i64 x.1, .int .i64 x.2.1, .int .i64 x.2.2]
def PE (s : ByteArray) (w : World) (e : Ending) (w' : World) : Prop := e = .returned (.tuple #[ptV (ptR s).1, .bool (ptR s).2]) ∧ Below w.heap.size w w'
set_option maxHeartbeats 6400000 in
theorem part_any (s : ByteArray) (w : World) (hs : s.size ≤ 100000) (hm : MLn w) : Calls Tryd.prog 16 #[.string s] w (PE s w) := by
  have hE : ∀ W (x : I3) (b : Bool), ptR s = (x, b) → Below w.heap.size w W → PE s w (.returned (.tuple #[.agg #[.int .i64 x.1, .int .i64 x.2.1, .int .i64 x.2.2], .bool b])) W := by
    intro W x b h h2
    unfold PE
    rw [h]
    exact ⟨rfl, h2⟩
  have hCut := fun (W : World) (h : MLn W) => (Exists.elim h fun m h1 => Tryd.strings_Cut s ⟨#[45]⟩ m W (by omega) h1 : Calls Tryd.prog 30 #[.string s, .string ⟨#[45]⟩] W fun e w' => e = .returned (.tuple #[.string (cA s), .string (cB s), .bool (cF s)]) ∧ ∃ n, w' = W.drewN n)
  have zA : (cA s).size ≤ s.size := by
    show (Lib.cut s.data.toList [45]).1.length ≤ s.data.toList.length
    unfold Lib.cut
    split
    · exact List.length_take_le' _ _
    · exact Nat.le_refl _
  have zB : (cB s).size ≤ s.size := by
    show (Lib.cut s.data.toList [45]).2.1.length ≤ s.data.toList.length
    unfold Lib.cut
    split
    · show (List.drop _ _).length ≤ _
      rw [List.length_drop]; omega
    · exact Nat.zero_le _
  have zT : ∀ c, (tS (cB s) c).size ≤ s.size := by
    intro c
    refine Nat.le_trans ?_ zB
    show (Lib.trimSuffix (cB s).data.toList [c]).length ≤ (cB s).data.toList.length
    unfold Lib.trimSuffix
    split
    · exact List.length_take_le' _ _
    · exact Nat.le_refl _
  have hC98 : ∀ W, Calls Tryd.prog 31 #[.string (cB s), .string ⟨#[98]⟩] W fun e w' => e = .returned (.tuple #[.string (tS (cB s) 98), .bool (hS (cB s) 98)]) ∧ W = w' := fun W => (Tryd.strings_CutSuffix (cB s) ⟨#[98]⟩ W (by omega)).mono fun _ _ h => ⟨h.1, h.2.symm⟩
  have hC97 : ∀ W, Calls Tryd.prog 31 #[.string (cB s), .string ⟨#[97]⟩] W fun e w' => e = .returned (.tuple #[.string (tS (cB s) 97), .bool (hS (cB s) 97)]) ∧ W = w' := fun W => (Tryd.strings_CutSuffix (cB s) ⟨#[97]⟩ W (by omega)).mono fun _ _ h => ⟨h.1, h.2.symm⟩
  have hL1 : ∀ W, Calls Tryd.prog 20 #[.int .i64 1] W fun e w' => e = .returned (.string ⟨#[98]⟩) ∧ W = w' := fun W => (letter_any 1 W).mono fun _ _ h => ⟨h.1, h.2.symm⟩
  replace hL1 := Lib.hid hL1
  have hL0 : ∀ W, Calls Tryd.prog 20 #[.int .i64 0] W fun e w' => e = .returned (.string ⟨#[97]⟩) ∧ W = w' := fun W => (letter_any 0 W).mono fun _ _ h => ⟨h.1, h.2.symm⟩
  replace hL0 := Lib.hid hL0
  have hRa := fun W => read_any (cA s) W (by omega)
  have hT98 := fun W => read_any (tS (cB s) 98) W (by have := zT 98; omega)
  have hT97 := fun W => read_any (tS (cB s) 97) W (by have := zT 97; omega)
  have hres : ptR s = if hS (cB s) 98 then ((readV (cA s), readV (tS (cB s) 98), 1), spOk (cF s) (cA s) (tS (cB s) 98))
    else if hS (cB s) 97 then ((readV (cA s), readV (tS (cB s) 97), 0), spOk (cF s) (cA s) (tS (cB s) 97)) else ((0, 0, 0), false) := rfl
  unfold spOk at hres
  generalize PE s w = Pst at *
  replace hE := Lib.hid hE
  have hT0 : Hid (∀ o, o = Obj.cells #[.int .i64 0, .int .i64 0, .int .i64 0] 42 → TB w ((w.alloc o).alloc o) 0 0 0 0 0 0 ∧ MLn ((w.alloc o).alloc o)) := by
    rintro o rfl
    have b1 := alb w (.cells #[.int .i64 0, .int .i64 0, .int .i64 0] 42)
    have b2 := alb (w.alloc (.cells #[.int .i64 0, .int .i64 0, .int .i64 0] 42)) (.cells #[.int .i64 0, .int .i64 0, .int .i64 0] 42)
    refine ⟨⟨(P3B.new w 0 0 0).below b2, ?_, bt b1 b2⟩, (hm.below b1).below b2⟩
    have := P3B.new (w.alloc (.cells #[.int .i64 0, .int .i64 0, .int .i64 0] 42)) 0 0 0
    rwa [show (w.alloc (.cells #[.int .i64 0, .int .i64 0, .int .i64 0] 42)).heap.size = w.heap.size + 1 by simp] at this
  replace hT0 := hT0.out _ rfl
  generalize hWW : (w.alloc (.cells #[.int .i64 0, .int .i64 0, .int .i64 0] 42)).alloc (.cells #[.int .i64 0, .int .i64 0, .int .i64 0] 42) = W0 at *
  have hm1 := Lib.hid hT0.2
  replace hT0 := Lib.hid hT0.1
  generalize cF s = fd at *
  generalize readV (cA s) = nA at *
  generalize readE (cA s) = eA at *
  generalize cA s = tA at *
  generalize cB s = tB at *
  clear hs hm zA zB zT
  replace hCut := Lib.hid hCut
  replace hRa := Lib.hid hRa
  cases h98 : hS tB 98 with
  | true =>
    rw [h98, if_pos rfl] at hres
    rw [h98] at hC98
    generalize readV (tS tB 98) = nT at *
    generalize readE (tS tB 98) = eT at *
    generalize tS tB 98 = tT at *
    clear h98 hT97
    replace hC98 := Lib.hid hC98
    replace hT98 := Lib.hid hT98
    go_enter Tryd.func16, Tryd.ntmps16
    go_upto_region 12 with (first | (go_at_call 30; (with_reducible refine (hCut.out _ hm1.out).mono ?_); rintro e1 w1 ⟨rfl, ⟨n, rfl⟩⟩; have hT2 := Lib.hid (TB.mk (hT0.out.r.below (bdraws0 _ n)) (hT0.out.p.below (bdraws0 _ n)) (bdraws hT0.out.bel n)); generalize W0.drewN n = W2 at *; have q0 := hT2.out.r.c0; have q1 := hT2.out.r.c1; have q2 := hT2.out.r.c2; have q3 := hT2.out.p.c0; have q4 := hT2.out.p.c1; have q5 := hT2.out.p.c2; have f0 := hT2.out.r.free 0; have f1 := hT2.out.r.free 1; have f2 := hT2.out.r.free 2; have f3 := hT2.out.p.free 0; have f4 := hT2.out.p.free 1; have f5 := hT2.out.p.free 2) | (go_at_call 20; (with_reducible refine (hL1.out _).mono ?_); rintro e2 w2 ⟨rfl, rfl⟩) | (go_at_call 20; (with_reducible refine (hL0.out _).mono ?_); rintro e3 w3 ⟨rfl, rfl⟩) | (go_at_call 31; (with_reducible refine (hC98.out _).mono ?_); rintro e4 w4 ⟨rfl, rfl⟩) | (go_at_call 31; (with_reducible refine (hC97.out _).mono ?_); rintro e5 w5 ⟨rfl, rfl⟩) | (go_at_call 32; (with_reducible refine (hRa.out _).mono ?_); rintro e6 w6 ⟨rfl, rfl⟩; have hT3 := Lib.hid (hT2.out.ps 1); clear q0 q1 q2 q3 q4 q5 f0 f1 f2 f3 f4 f5; generalize W2.setCell ⟨w.heap.size + 1, 2, none⟩ (.int .i64 1) = W3 at *; have q0 := hT3.out.r.c0; have q1 := hT3.out.r.c1; have q2 := hT3.out.r.c2; have q3 := hT3.out.p.c0; have q4 := hT3.out.p.c1; have q5 := hT3.out.p.c2; have f0 := hT3.out.r.free 0; have f1 := hT3.out.r.free 1; have f2 := hT3.out.r.free 2; have f3 := hT3.out.p.free 0; have f4 := hT3.out.p.free 1; have f5 := hT3.out.p.free 2) | (go_at_call 32; (with_reducible refine (hT98.out _).mono ?_); rintro e7 w7 ⟨rfl, rfl⟩))
    have hT4 := Lib.hid (hT3.out.pp nA nT)
    clear q0 q1 q2 q3 q4 q5 f0 f1 f2 f3 f4 f5
    generalize (W3.setCell ⟨w.heap.size + 1, 0, none⟩ (.int .i64 nA)).setCell ⟨w.heap.size + 1, 1, none⟩ (.int .i64 nT) = W4 at *
    have q0 := hT4.out.r.c0
    have q1 := hT4.out.r.c1
    have q2 := hT4.out.r.c2
    have q3 := hT4.out.p.c0
    have q4 := hT4.out.p.c1
    have q5 := hT4.out.p.c2
    have f0 := hT4.out.r.free 0
    have f1 := hT4.out.r.free 1
    have f2 := hT4.out.r.free 2
    have f3 := hT4.out.p.free 0
    have f4 := hT4.out.p.free 1
    have f5 := hT4.out.p.free 2
    cases fd with
    | true =>
      by_cases k2 : eA = 0
      · subst k2
        by_cases k3 : eT = 0
        · subst k3
          by_cases k4 : 0 ≤ nA
          · have d4 : decide (0 ≤ nA) = true := decide_eq_true k4
            by_cases k5 : 0 ≤ nT
            · have d5 : decide (0 ≤ nT) = true := decide_eq_true k5
              replace hres := Lib.hid (hres.trans (by simp [k4, k5]) : ptR s = ((nA, nT, 1), true))
              go_wp2_with fail
              have hF := hT4.out.pr nA nT 1
              clear q0 q1 q2 q3 q4 q5 f0 f1 f2 f3 f4 f5
              generalize (((W4.setCell ⟨w.heap.size, 0, none⟩ (.int .i64 nA)).setCell ⟨w.heap.size, 1, none⟩ (.int .i64 nT)).setCell ⟨w.heap.size, 2, none⟩ (.int .i64 1)) = WF at *
              have o0 := hF.r.c0
              have o1 := hF.r.c1
              have o2 := hF.r.c2
              have hbF := Lib.hid hF.bel
              refine bodyPost_ret (v := .tuple #[.agg #[.int .i64 nA, .int .i64 nT, .int .i64 1], .bool true]) (by simp [results, Tryd.results16, go_sem, o0, o1, o2]) rfl ?_
              exact hE.out _ (nA, nT, 1) true hres.out hbF.out
            · have d5 : decide (0 ≤ nT) = false := decide_eq_false k5
              replace hres := Lib.hid (hres.trans (by simp [k5]) : ptR s = ((nA, nT, 1), false))
              go_wp2_with fail
              have hF := hT4.out.pr nA nT 1
              clear q0 q1 q2 q3 q4 q5 f0 f1 f2 f3 f4 f5
              generalize (((W4.setCell ⟨w.heap.size, 0, none⟩ (.int .i64 nA)).setCell ⟨w.heap.size, 1, none⟩ (.int .i64 nT)).setCell ⟨w.heap.size, 2, none⟩ (.int .i64 1)) = WF at *
              have o0 := hF.r.c0
              have o1 := hF.r.c1
              have o2 := hF.r.c2
              have hbF := Lib.hid hF.bel
              refine bodyPost_ret (v := .tuple #[.agg #[.int .i64 nA, .int .i64 nT, .int .i64 1], .bool false]) (by simp [results, Tryd.results16, go_sem, o0, o1, o2]) rfl ?_
              exact hE.out _ (nA, nT, 1) false hres.out hbF.out
          · have d4 : decide (0 ≤ nA) = false := decide_eq_false k4
            replace hres := Lib.hid (hres.trans (by simp [k4]) : ptR s = ((nA, nT, 1), false))
            go_wp2_with fail
            have hF := hT4.out.pr nA nT 1
            clear q0 q1 q2 q3 q4 q5 f0 f1 f2 f3 f4 f5
            generalize (((W4.setCell ⟨w.heap.size, 0, none⟩ (.int .i64 nA)).setCell ⟨w.heap.size, 1, none⟩ (.int .i64 nT)).setCell ⟨w.heap.size, 2, none⟩ (.int .i64 1)) = WF at *
            have o0 := hF.r.c0
            have o1 := hF.r.c1
            have o2 := hF.r.c2
            have hbF := Lib.hid hF.bel
            refine bodyPost_ret (v := .tuple #[.agg #[.int .i64 nA, .int .i64 nT, .int .i64 1], .bool false]) (by simp [results, Tryd.results16, go_sem, o0, o1, o2]) rfl ?_
            exact hE.out _ (nA, nT, 1) false hres.out hbF.out
        · have n3 : (eT == 0) = false := by simpa using k3
          replace hres := Lib.hid (hres.trans (by simp [k3]) : ptR s = ((nA, nT, 1), false))
          clear k3
          go_wp2_with fail
          have hF := hT4.out.pr nA nT 1
          clear q0 q1 q2 q3 q4 q5 f0 f1 f2 f3 f4 f5
          generalize (((W4.setCell ⟨w.heap.size, 0, none⟩ (.int .i64 nA)).setCell ⟨w.heap.size, 1, none⟩ (.int .i64 nT)).setCell ⟨w.heap.size, 2, none⟩ (.int .i64 1)) = WF at *
          have o0 := hF.r.c0
          have o1 := hF.r.c1
          have o2 := hF.r.c2
          have hbF := Lib.hid hF.bel
          refine bodyPost_ret (v := .tuple #[.agg #[.int .i64 nA, .int .i64 nT, .int .i64 1], .bool false]) (by simp [results, Tryd.results16, go_sem, o0, o1, o2]) rfl ?_
          exact hE.out _ (nA, nT, 1) false hres.out hbF.out
      · have n2 : (eA == 0) = false := by simpa using k2
        replace hres := Lib.hid (hres.trans (by simp [k2]) : ptR s = ((nA, nT, 1), false))
        clear k2
        go_wp2_with fail
        have hF := hT4.out.pr nA nT 1
        clear q0 q1 q2 q3 q4 q5 f0 f1 f2 f3 f4 f5
        generalize (((W4.setCell ⟨w.heap.size, 0, none⟩ (.int .i64 nA)).setCell ⟨w.heap.size, 1, none⟩ (.int .i64 nT)).setCell ⟨w.heap.size, 2, none⟩ (.int .i64 1)) = WF at *
        have o0 := hF.r.c0
        have o1 := hF.r.c1
        have o2 := hF.r.c2
        have hbF := Lib.hid hF.bel
        refine bodyPost_ret (v := .tuple #[.agg #[.int .i64 nA, .int .i64 nT, .int .i64 1], .bool false]) (by simp [results, Tryd.results16, go_sem, o0, o1, o2]) rfl ?_
        exact hE.out _ (nA, nT, 1) false hres.out hbF.out
    | false =>
      replace hres := Lib.hid (hres.trans (by simp) : ptR s = ((nA, nT, 1), false))
      go_wp2_with fail
      have hF := hT4.out.pr nA nT 1
      clear q0 q1 q2 q3 q4 q5 f0 f1 f2 f3 f4 f5
      generalize (((W4.setCell ⟨w.heap.size, 0, none⟩ (.int .i64 nA)).setCell ⟨w.heap.size, 1, none⟩ (.int .i64 nT)).setCell ⟨w.heap.size, 2, none⟩ (.int .i64 1)) = WF at *
      have o0 := hF.r.c0
      have o1 := hF.r.c1
      have o2 := hF.r.c2
      have hbF := Lib.hid hF.bel
      refine bodyPost_ret (v := .tuple #[.agg #[.int .i64 nA, .int .i64 nT, .int .i64 1], .bool false]) (by simp [results, Tryd.results16, go_sem, o0, o1, o2]) rfl ?_
      exact hE.out _ (nA, nT, 1) false hres.out hbF.out
  | false =>
    rw [h98, if_neg (by simp)] at hres
    rw [h98] at hC98
    cases h97 : hS tB 97 with
    | true =>
      rw [h97, if_pos rfl] at hres
      rw [h97] at hC97
      generalize readV (tS tB 97) = nT at *
      generalize readE (tS tB 97) = eT at *
      generalize tS tB 97 = tT at *
      clear h98 h97 hT98
      replace hC98 := Lib.hid hC98
      replace hC97 := Lib.hid hC97
      replace hT97 := Lib.hid hT97
      go_enter Tryd.func16, Tryd.ntmps16
      go_upto_region 12 with (first | (go_at_call 30; (with_reducible refine (hCut.out _ hm1.out).mono ?_); rintro e1 w1 ⟨rfl, ⟨n, rfl⟩⟩; have hT2 := Lib.hid (TB.mk (hT0.out.r.below (bdraws0 _ n)) (hT0.out.p.below (bdraws0 _ n)) (bdraws hT0.out.bel n)); generalize W0.drewN n = W2 at *; have q0 := hT2.out.r.c0; have q1 := hT2.out.r.c1; have q2 := hT2.out.r.c2; have q3 := hT2.out.p.c0; have q4 := hT2.out.p.c1; have q5 := hT2.out.p.c2; have f0 := hT2.out.r.free 0; have f1 := hT2.out.r.free 1; have f2 := hT2.out.r.free 2; have f3 := hT2.out.p.free 0; have f4 := hT2.out.p.free 1; have f5 := hT2.out.p.free 2) | (go_at_call 20; (with_reducible refine (hL1.out _).mono ?_); rintro e2 w2 ⟨rfl, rfl⟩) | (go_at_call 20; (with_reducible refine (hL0.out _).mono ?_); rintro e3 w3 ⟨rfl, rfl⟩) | (go_at_call 31; (with_reducible refine (hC98.out _).mono ?_); rintro e4 w4 ⟨rfl, rfl⟩) | (go_at_call 31; (with_reducible refine (hC97.out _).mono ?_); rintro e5 w5 ⟨rfl, rfl⟩) | (go_at_call 32; (with_reducible refine (hRa.out _).mono ?_); rintro e6 w6 ⟨rfl, rfl⟩) | (go_at_call 32; (with_reducible refine (hT97.out _).mono ?_); rintro e7 w7 ⟨rfl, rfl⟩))
      have hT4 := Lib.hid (hT2.out.pp nA nT)
      clear q0 q1 q2 q3 q4 q5 f0 f1 f2 f3 f4 f5
      generalize (W2.setCell ⟨w.heap.size + 1, 0, none⟩ (.int .i64 nA)).setCell ⟨w.heap.size + 1, 1, none⟩ (.int .i64 nT) = W4 at *
      have q0 := hT4.out.r.c0
      have q1 := hT4.out.r.c1
      have q2 := hT4.out.r.c2
      have q3 := hT4.out.p.c0
      have q4 := hT4.out.p.c1
      have q5 := hT4.out.p.c2
      have f0 := hT4.out.r.free 0
      have f1 := hT4.out.r.free 1
      have f2 := hT4.out.r.free 2
      have f3 := hT4.out.p.free 0
      have f4 := hT4.out.p.free 1
      have f5 := hT4.out.p.free 2
      cases fd with
      | true =>
        by_cases k2 : eA = 0
        · subst k2
          by_cases k3 : eT = 0
          · subst k3
            by_cases k4 : 0 ≤ nA
            · have d4 : decide (0 ≤ nA) = true := decide_eq_true k4
              by_cases k5 : 0 ≤ nT
              · have d5 : decide (0 ≤ nT) = true := decide_eq_true k5
                replace hres := Lib.hid (hres.trans (by simp [k4, k5]) : ptR s = ((nA, nT, 0), true))
                go_wp2_with fail
                have hF := hT4.out.pr nA nT 0
                clear q0 q1 q2 q3 q4 q5 f0 f1 f2 f3 f4 f5
                generalize (((W4.setCell ⟨w.heap.size, 0, none⟩ (.int .i64 nA)).setCell ⟨w.heap.size, 1, none⟩ (.int .i64 nT)).setCell ⟨w.heap.size, 2, none⟩ (.int .i64 0)) = WF at *
                have o0 := hF.r.c0
                have o1 := hF.r.c1
                have o2 := hF.r.c2
                have hbF := Lib.hid hF.bel
                refine bodyPost_ret (v := .tuple #[.agg #[.int .i64 nA, .int .i64 nT, .int .i64 0], .bool true]) (by simp [results, Tryd.results16, go_sem, o0, o1, o2]) rfl ?_
                exact hE.out _ (nA, nT, 0) true hres.out hbF.out
              · have d5 : decide (0 ≤ nT) = false := decide_eq_false k5
                replace hres := Lib.hid (hres.trans (by simp [k5]) : ptR s = ((nA, nT, 0), false))
                go_wp2_with fail
                have hF := hT4.out.pr nA nT 0
                clear q0 q1 q2 q3 q4 q5 f0 f1 f2 f3 f4 f5
                generalize (((W4.setCell ⟨w.heap.size, 0, none⟩ (.int .i64 nA)).setCell ⟨w.heap.size, 1, none⟩ (.int .i64 nT)).setCell ⟨w.heap.size, 2, none⟩ (.int .i64 0)) = WF at *
                have o0 := hF.r.c0
                have o1 := hF.r.c1
                have o2 := hF.r.c2
                have hbF := Lib.hid hF.bel
                refine bodyPost_ret (v := .tuple #[.agg #[.int .i64 nA, .int .i64 nT, .int .i64 0], .bool false]) (by simp [results, Tryd.results16, go_sem, o0, o1, o2]) rfl ?_
                exact hE.out _ (nA, nT, 0) false hres.out hbF.out
            · have d4 : decide (0 ≤ nA) = false := decide_eq_false k4
              replace hres := Lib.hid (hres.trans (by simp [k4]) : ptR s = ((nA, nT, 0), false))
              go_wp2_with fail
              have hF := hT4.out.pr nA nT 0
              clear q0 q1 q2 q3 q4 q5 f0 f1 f2 f3 f4 f5
              generalize (((W4.setCell ⟨w.heap.size, 0, none⟩ (.int .i64 nA)).setCell ⟨w.heap.size, 1, none⟩ (.int .i64 nT)).setCell ⟨w.heap.size, 2, none⟩ (.int .i64 0)) = WF at *
              have o0 := hF.r.c0
              have o1 := hF.r.c1
              have o2 := hF.r.c2
              have hbF := Lib.hid hF.bel
              refine bodyPost_ret (v := .tuple #[.agg #[.int .i64 nA, .int .i64 nT, .int .i64 0], .bool false]) (by simp [results, Tryd.results16, go_sem, o0, o1, o2]) rfl ?_
              exact hE.out _ (nA, nT, 0) false hres.out hbF.out
          · have n3 : (eT == 0) = false := by simpa using k3
            replace hres := Lib.hid (hres.trans (by simp [k3]) : ptR s = ((nA, nT, 0), false))
            clear k3
            go_wp2_with fail
            have hF := hT4.out.pr nA nT 0
            clear q0 q1 q2 q3 q4 q5 f0 f1 f2 f3 f4 f5
            generalize (((W4.setCell ⟨w.heap.size, 0, none⟩ (.int .i64 nA)).setCell ⟨w.heap.size, 1, none⟩ (.int .i64 nT)).setCell ⟨w.heap.size, 2, none⟩ (.int .i64 0)) = WF at *
            have o0 := hF.r.c0
            have o1 := hF.r.c1
            have o2 := hF.r.c2
            have hbF := Lib.hid hF.bel
            refine bodyPost_ret (v := .tuple #[.agg #[.int .i64 nA, .int .i64 nT, .int .i64 0], .bool false]) (by simp [results, Tryd.results16, go_sem, o0, o1, o2]) rfl ?_
            exact hE.out _ (nA, nT, 0) false hres.out hbF.out
        · have n2 : (eA == 0) = false := by simpa using k2
          replace hres := Lib.hid (hres.trans (by simp [k2]) : ptR s = ((nA, nT, 0), false))
          clear k2
          go_wp2_with fail
          have hF := hT4.out.pr nA nT 0
          clear q0 q1 q2 q3 q4 q5 f0 f1 f2 f3 f4 f5
          generalize (((W4.setCell ⟨w.heap.size, 0, none⟩ (.int .i64 nA)).setCell ⟨w.heap.size, 1, none⟩ (.int .i64 nT)).setCell ⟨w.heap.size, 2, none⟩ (.int .i64 0)) = WF at *
          have o0 := hF.r.c0
          have o1 := hF.r.c1
          have o2 := hF.r.c2
          have hbF := Lib.hid hF.bel
          refine bodyPost_ret (v := .tuple #[.agg #[.int .i64 nA, .int .i64 nT, .int .i64 0], .bool false]) (by simp [results, Tryd.results16, go_sem, o0, o1, o2]) rfl ?_
          exact hE.out _ (nA, nT, 0) false hres.out hbF.out
      | false =>
        replace hres := Lib.hid (hres.trans (by simp) : ptR s = ((nA, nT, 0), false))
        go_wp2_with fail
        have hF := hT4.out.pr nA nT 0
        clear q0 q1 q2 q3 q4 q5 f0 f1 f2 f3 f4 f5
        generalize (((W4.setCell ⟨w.heap.size, 0, none⟩ (.int .i64 nA)).setCell ⟨w.heap.size, 1, none⟩ (.int .i64 nT)).setCell ⟨w.heap.size, 2, none⟩ (.int .i64 0)) = WF at *
        have o0 := hF.r.c0
        have o1 := hF.r.c1
        have o2 := hF.r.c2
        have hbF := Lib.hid hF.bel
        refine bodyPost_ret (v := .tuple #[.agg #[.int .i64 nA, .int .i64 nT, .int .i64 0], .bool false]) (by simp [results, Tryd.results16, go_sem, o0, o1, o2]) rfl ?_
        exact hE.out _ (nA, nT, 0) false hres.out hbF.out
    | false =>
      rw [h97, if_neg (by simp)] at hres
      rw [h97] at hC97
      clear h98 h97 hT98 hT97
      replace hC98 := Lib.hid hC98
      replace hC97 := Lib.hid hC97
      replace hres := Lib.hid hres
      go_enter Tryd.func16, Tryd.ntmps16
      go_wp2_with (first | (go_at_call 30; (with_reducible refine (hCut.out _ hm1.out).mono ?_); rintro e1 w1 ⟨rfl, ⟨n, rfl⟩⟩; have hT2 := Lib.hid (TB.mk (hT0.out.r.below (bdraws0 _ n)) (hT0.out.p.below (bdraws0 _ n)) (bdraws hT0.out.bel n)); generalize W0.drewN n = W2 at *; have q0 := hT2.out.r.c0; have q1 := hT2.out.r.c1; have q2 := hT2.out.r.c2; have q3 := hT2.out.p.c0; have q4 := hT2.out.p.c1; have q5 := hT2.out.p.c2; have f0 := hT2.out.r.free 0; have f1 := hT2.out.r.free 1; have f2 := hT2.out.r.free 2; have f3 := hT2.out.p.free 0; have f4 := hT2.out.p.free 1; have f5 := hT2.out.p.free 2) | (go_at_call 20; (with_reducible refine (hL1.out _).mono ?_); rintro e2 w2 ⟨rfl, rfl⟩) | (go_at_call 20; (with_reducible refine (hL0.out _).mono ?_); rintro e3 w3 ⟨rfl, rfl⟩) | (go_at_call 31; (with_reducible refine (hC98.out _).mono ?_); rintro e4 w4 ⟨rfl, rfl⟩) | (go_at_call 31; (with_reducible refine (hC97.out _).mono ?_); rintro e5 w5 ⟨rfl, rfl⟩))
      have hF := hT2.out.pr 0 0 0
      clear q0 q1 q2 q3 q4 q5 f0 f1 f2 f3 f4 f5
      generalize (((W2.setCell ⟨w.heap.size, 0, none⟩ (.int .i64 0)).setCell ⟨w.heap.size, 1, none⟩ (.int .i64 0)).setCell ⟨w.heap.size, 2, none⟩ (.int .i64 0)) = WF at *
      have o0 := hF.r.c0
      have o1 := hF.r.c1
      have o2 := hF.r.c2
      have hbF := Lib.hid hF.bel
      refine bodyPost_ret (v := .tuple #[.agg #[.int .i64 0, .int .i64 0, .int .i64 0], .bool false]) (by simp [results, Tryd.results16, go_sem, o0, o1, o2]) rfl ?_
      exact hE.out _ (0, 0, 0) false hres.out hbF.out
end Go.Proofs.YtlmmmibnnbceeaaDoor
