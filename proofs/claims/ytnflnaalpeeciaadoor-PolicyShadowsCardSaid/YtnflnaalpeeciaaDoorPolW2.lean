/-
  What rules plan (chapter 42): the law's walk.
-/
import Derived.Test.YtnflnaalpeeciaaDoorPol12
namespace Go.Proofs.YtnflnaalpeeciaaDoor
open Go.RowKit
set_option linter.unusedVariables false
set_option linter.unusedSimpArgs false
set_option maxRecDepth 20000

def rlK (r : Rl) : Prop := True
def prK (p : Pr) : Prop := True
theorem rl_of (vs : List Value) (h : OKs [LK.int .i64, LK.int .i64, LK.int .i64] vs) : ∃ x, vs = rlE x ∧ rlK x := by
  obtain ⟨c0, r0, rfl, h0, h⟩ := OKs.cons h
  obtain ⟨c1, r1, rfl, h1, h⟩ := OKs.cons h
  obtain ⟨c2, r2, rfl, h2, h⟩ := OKs.cons h
  obtain rfl := OKs.nil h
  obtain ⟨a0, rfl, w0⟩ := h0
  obtain ⟨a1, rfl, w1⟩ := h1
  obtain ⟨a2, rfl, w2⟩ := h2
  exact ⟨⟨a0, a1, a2⟩, rfl, trivial⟩
theorem pr_of (vs : List Value) (h : OKs [LK.int .i64, LK.int .i64, LK.int .i64, LK.str, LK.int .i64, LK.int .i64, LK.str] vs) : ∃ x, vs = prE x ∧ prK x := by
  obtain ⟨c0, r0, rfl, h0, h⟩ := OKs.cons h
  obtain ⟨c1, r1, rfl, h1, h⟩ := OKs.cons h
  obtain ⟨c2, r2, rfl, h2, h⟩ := OKs.cons h
  obtain ⟨c3, r3, rfl, h3, h⟩ := OKs.cons h
  obtain ⟨c4, r4, rfl, h4, h⟩ := OKs.cons h
  obtain ⟨c5, r5, rfl, h5, h⟩ := OKs.cons h
  obtain ⟨c6, r6, rfl, h6, h⟩ := OKs.cons h
  obtain rfl := OKs.nil h
  obtain ⟨a0, rfl, w0⟩ := h0
  obtain ⟨a1, rfl, w1⟩ := h1
  obtain ⟨a2, rfl, w2⟩ := h2
  obtain ⟨a3, rfl, w3⟩ := h3
  obtain ⟨a4, rfl, w4⟩ := h4
  obtain ⟨a5, rfl, w5⟩ := h5
  obtain ⟨a6, rfl, w6⟩ := h6
  exact ⟨⟨a0, a1, a2, a3, a4, a5, a6⟩, rfl, trivial⟩
theorem great_no {m : List Pr} (h : greatP m = false) : m.length ≤ 60 := by
  unfold greatP at h
  rw [Bool.or_eq_false_iff] at h
  have := of_decide_eq_false h.1
  omega
/-- nothing but the call's own is new, so far on in a loop -/
def LoopR (w : World) (n : Nat) (i : Value) (wr : World) : Prop := ∃ k : Nat, k ≤ n ∧ i = .int .i64 k ∧ Hid (Below w.heap.size w wr)
set_option maxHeartbeats 6400000 in
theorem walk_PolicyPlans (al : Option Addr) (lenl capl : Nat) (l : List Rl) {w : World} (hl : IsList w al lenl 3 rlE rlK l) (am : Option Addr) (lenm capm : Nat) (m : List Pr) (hmm : IsList w am lenm 7 prE prK m) (hm : ML w) :
    Calls Tryd.prog 4 #[.slice al lenl capl, .slice am lenm capm] w fun e w' => e = .returned (.bool true) ∧ Below w.heap.size w w' := by
  have e1 := hl.size_eq
  have e2 := hmm.size_eq
  have m1 := hl.most
  have m2 := hmm.most
  subst e1 e2
  have hX : FR.X w (.slice al l.length capl) l := Fl.X.of (F := FR) hl
  have hY : FP.X w (.slice am m.length capm) m := Fl.X.of (F := FP) hmm
  clear hl hmm
  have hE : ∀ W, Below w.heap.size w W → (fun (e : Ending) (w' : World) => e = .returned (.bool true) ∧ Below w.heap.size w w') (.returned (.bool true)) W := fun W h => ⟨rfl, h⟩
  generalize (fun (e : Ending) (w' : World) => e = .returned (.bool true) ∧ Below w.heap.size w w') = Pst at *
  replace hE := Lib.hid hE
  replace hm := Lib.hid hm
  have hwk := Lib.hid (fun W (h : ML W) => works_any W h)
  have hgr := fun W (hb : Below w.heap.size w W) => great_any _ m W (hY.below hb) m2
  have hbx := Lib.hid (Below.refl w.heap.size w)
  replace hX := Lib.hid hX
  replace hY := Lib.hid hY
  by_cases hbig : 60 < l.length
  · have hd : decide ((60 : Int) < (l.length : Int)) = true := decide_eq_true (by omega)
    have hd' : decide (60 < l.length) = true := decide_eq_true hbig
    clear hgr
    go_enter Tryd.func4, Tryd.ntmps4
    go_wp2_with (go_at_call 6; (with_reducible refine (hwk.out _ (hm.out.below hbx.out)).mono ?_); rintro e1 w1 ⟨rfl, hA⟩; replace hbx := Lib.hid (bt hbx.out hA); clear hA)
    exact hE.out _ hbx.out
  · have hd : decide ((60 : Int) < (l.length : Int)) = false := decide_eq_false (by omega)
    have hd' : decide (60 < l.length) = false := decide_eq_false hbig
    cases hgm : greatP m with
    | true =>
      rw [hgm] at hgr
      replace hgr := Lib.hid hgr
      go_enter Tryd.func4, Tryd.ntmps4
      go_wp2_with (first | (go_at_call 6; (with_reducible refine (hwk.out _ (hm.out.below hbx.out)).mono ?_); rintro e1 w1 ⟨rfl, hA⟩; replace hbx := Lib.hid (bt hbx.out hA); clear hA) | (go_at_call 7; (with_reducible refine (hgr.out _ hbx.out).mono ?_); rintro e2 w2 ⟨rfl, hA⟩; replace hbx := Lib.hid (bt hbx.out hA); clear hA))
      exact hE.out _ hbx.out
    | false =>
      have hm60 := great_no hgm
      rw [hgm] at hgr
      replace hgr := Lib.hid hgr
      have hch := Lib.hid (fun p W (hb : Below w.heap.size w W) => choose_any l _ p W (hX.out.below hb) (by omega))
      have hrc := Lib.hid (fun p W (hb : Below w.heap.size w W) => rchoose_any l _ p W (hX.out.below hb) (by omega))
      have hpl := Lib.hid (fun W (hb : Below w.heap.size w W) => plan_any l _ m _ W (hX.out.below hb) (hY.out.below hb) (by omega) (by omega))
      have hrp := Lib.hid (fun W (hb : Below w.heap.size w W) => rplan_any l _ m _ W (hX.out.below hb) (hY.out.below hb) (by omega) (by omega))
      have hsh := Lib.hid (fun W (hb : Below w.heap.size w W) => shad_any l _ W (hX.out.below hb) (by omega))
      have hrs := Lib.hid (fun W (hb : Below w.heap.size w W) => rshad_any l _ W (hX.out.below hb) (by omega))
      have hsl := shadL_len l l.length
      have hpn := plan_len l m
      have hpo := Lib.hid (plan_ok l m)
      clear hgm
      go_enter Tryd.func4, Tryd.ntmps4
      go_wp2_with (first | (go_at_call 6; (with_reducible refine (hwk.out _ (hm.out.below hbx.out)).mono ?_); rintro e1 w1 ⟨rfl, hA⟩; replace hbx := Lib.hid (bt hbx.out hA); clear hA) | (go_at_call 7; (with_reducible refine (hgr.out _ hbx.out).mono ?_); rintro e2 w2 ⟨rfl, hA⟩; replace hbx := Lib.hid (bt hbx.out hA); clear hA))
      go_loopw [5] (fun i wr => LoopR w m.length i wr) (fun i _ => m.length - (intOf i).toNat)
      case atStart => exact ⟨0, Nat.zero_le _, rfl, hbx⟩
      case round =>
        obtain ⟨k, hk, rfl, hB⟩ := hrel
        by_cases hlt : k < m.length
        · have hd2 : decide ((k : Int) < (m.length : Int)) = true := decide_eq_true (by omega)
          have hd3 : decide (k < m.length) = true := decide_eq_true hlt
          obtain ⟨y, hy⟩ : ∃ y, m[k]? = some y := ⟨_, List.getElem?_eq_getElem hlt⟩
          obtain ⟨g, o, rfl, p0, p1, p2, p3, p4, p5, p6⟩ := FP.at hY.out k y hy
          have p0 := bkeep hB.out p0
          have p1 := bkeep hB.out p1
          have p2 := bkeep hB.out p2
          have p3 := bkeep hB.out p3
          have p4 := bkeep hB.out p4
          have p5 := bkeep hB.out p5
          have p6 := bkeep hB.out p6
          have i1 : (0 : Int) ≤ (k : Int) := by omega
          have i2 : (k : Int) < (m.length : Int) := by omega
          have hc1 := fun W hb => hch.out y W hb
          have hc2 := fun W hb => hrc.out y W hb
          unfold prV chV at hc1 hc2
          generalize choose l y = c at *
          obtain ⟨c1, c2⟩ := c
          simp only at hc1 hc2
          replace hc1 := Lib.hid hc1
          replace hc2 := Lib.hid hc2
          have hcc : (c1 != c1) = false := by simp
          clear hy
          cases c2
          all_goals
            go_wp2_with (first | (go_at_call 11; (with_reducible refine (hc1.out _ hB.out).mono ?_); rintro e3 w3 ⟨rfl, hA⟩; replace hB := Lib.hid (bt hB.out hA); replace p0 := bkeep hA p0; replace p1 := bkeep hA p1; replace p2 := bkeep hA p2; replace p3 := bkeep hA p3; replace p4 := bkeep hA p4; replace p5 := bkeep hA p5; replace p6 := bkeep hA p6; clear hA) | (go_at_call 12; (with_reducible refine (hc2.out _ hB.out).mono ?_); rintro e4 w4 ⟨rfl, hA⟩; replace hB := Lib.hid (bt hB.out hA); clear hA))
            exact ⟨⟨k + 1, by omega, by go_num, hB⟩, by simp [intOf]; omega⟩
        · have hd2 : decide ((k : Int) < (m.length : Int)) = false := decide_eq_false (by omega)
          have hd3 : decide (k < m.length) = false := decide_eq_false hlt
          replace hbx := hB
          clear hB hlt
          unfold PE at hpl hrp
          unfold SE at hsh hrs
          generalize plan l m = PL at *
          generalize shadL l l.length = SL at *
          go_wp2_with (go_at_call 10; (with_reducible refine (hpl.out _ hbx.out).mono ?_); rintro e5 w5 ⟨vp, rfl, hrow, hA⟩; replace hrow := Lib.hid hrow.x; replace hbx := Lib.hid (bt hbx.out hA); clear hA)
          obtain ⟨pa, pc, rfl⟩ := hrow.out.any
          go_loopw [11] (fun i wr => LoopR w5 PL.length i wr) (fun i _ => PL.length - (intOf i).toNat)
          case atStart => exact ⟨0, Nat.zero_le _, rfl, Lib.hid (Below.refl _ _)⟩
          case round =>
            obtain ⟨j, hj, rfl, hB⟩ := hrel
            by_cases hlt : j < PL.length
            · have hd4 : decide ((j : Int) < (PL.length : Int)) = true := decide_eq_true (by omega)
              have hd5 : decide (j < PL.length) = true := decide_eq_true hlt
              obtain ⟨y, hy⟩ : ∃ y, PL[j]? = some y := ⟨_, List.getElem?_eq_getElem hlt⟩
              obtain ⟨g, o, rfl, q0, q1, q2, q3⟩ := FC.at hrow.out j y hy
              have q0 := bkeep hB.out q0
              have q1 := bkeep hB.out q1
              have q2 := bkeep hB.out q2
              have q3 := bkeep hB.out q3
              have i1 : (0 : Int) ≤ (j : Int) := by omega
              have i2 : (j : Int) < (PL.length : Int) := by omega
              have hok := hpo.out y (List.mem_of_getElem? hy)
              have hck := fun W => ccheck_any y W hok.1 hok.2
              unfold cmV at hck
              replace hck := Lib.hid hck
              clear hy hok
              go_wp2_with (go_at_call 13; (with_reducible refine (hck.out _).mono ?_); rintro e6 w6 ⟨rfl, hA⟩; replace hB := Lib.hid (bt hB.out hA); clear hA)
              exact ⟨⟨j + 1, by omega, by go_num, hB⟩, by simp [intOf]; omega⟩
            · have hd4 : decide ((j : Int) < (PL.length : Int)) = false := decide_eq_false (by omega)
              have hd5 : decide (j < PL.length) = false := decide_eq_false hlt
              replace hbx := Lib.hid (bt hbx.out hB.out)
              replace hrow := Lib.hid (hrow.out.below hB.out)
              clear hB hlt
              have hns : ((SL.length : Int) != (SL.length : Int)) = false := by simp
              go_wp2_with (first | (go_at_call 8; (with_reducible refine (hsh.out _ hbx.out).mono ?_); rintro e7 w7 ⟨v7, rfl, hr7, hA⟩; replace hr7 := Lib.hid hr7.x; replace hbx := Lib.hid (bt hbx.out hA); replace hrow := Lib.hid (hrow.out.below hA); clear hA; obtain ⟨sa, sc, rfl⟩ := hr7.out.any) | (go_at_call 14; (with_reducible refine (hrs.out _ hbx.out).mono ?_); rintro e8 w8 ⟨v8, rfl, hr8, hA⟩; replace hr8 := Lib.hid hr8.x; replace hbx := Lib.hid (bt hbx.out hA); replace hrow := Lib.hid (hrow.out.below hA); replace hr7 := Lib.hid (hr7.out.below hA); clear hA; obtain ⟨ra, rc, rfl⟩ := hr8.out.any))
              go_loopw [14] (fun i wr => LoopR w8 SL.length i wr) (fun i _ => SL.length - (intOf i).toNat)
              case atStart => exact ⟨0, Nat.zero_le _, rfl, Lib.hid (Below.refl _ _)⟩
              case round =>
                obtain ⟨j, hj, rfl, hB⟩ := hrel
                by_cases hlt : j < SL.length
                · have hd6 : decide ((j : Int) < (SL.length : Int)) = true := decide_eq_true (by omega)
                  have hd7 : decide (j < SL.length) = true := decide_eq_true hlt
                  obtain ⟨y, hy⟩ : ∃ y, SL[j]? = some y := ⟨_, List.getElem?_eq_getElem hlt⟩
                  obtain ⟨g7, o7, rfl, q7⟩ := FI.at hr7.out j y hy
                  obtain ⟨g8, o8, rfl, q8⟩ := FI.at hr8.out j y hy
                  have q7 := bkeep hB.out q7
                  have q8 := bkeep hB.out q8
                  have i1 : (0 : Int) ≤ (j : Int) := by omega
                  have i2 : (j : Int) < (SL.length : Int) := by omega
                  have hyy : ((y : Int) != (y : Int)) = false := by simp
                  have hfin := Lib.hid (fun n => bdraws hB.out n)
                  clear hy
                  go_wp2
                  go_quiet (fail)
                  go_wp2
                  exact ⟨⟨j + 1, by omega, by go_num, hfin.out _⟩, by simp [intOf]; omega⟩
                · have hd6 : decide ((j : Int) < (SL.length : Int)) = false := decide_eq_false (by omega)
                  have hd7 : decide (j < SL.length) = false := decide_eq_false hlt
                  replace hbx := Lib.hid (bt hbx.out hB.out)
                  replace hrow := Lib.hid (hrow.out.below hB.out)
                  clear hB hlt hr7 hr8
                  go_wp2_with (first | (go_at_call 15; (with_reducible refine (hrp.out _ hbx.out).mono ?_); rintro e9 w9 ⟨vq, rfl, hrq, hA⟩; replace hrq := Lib.hid hrq.x; replace hbx := Lib.hid (bt hbx.out hA); replace hrow := Lib.hid (hrow.out.below hA); clear hA) | (go_at_call 9; (with_reducible refine (same_eq _ _ PL _ hrow.out hrq.out (by omega)).mono ?_); rintro e10 w10 ⟨rfl, hA⟩; replace hbx := Lib.hid (bt hbx.out hA)))
                  exact hE.out _ hbx.out
end Go.Proofs.YtnflnaalpeeciaaDoor
