/-
  The reference's set: put, next.
-/
import Derived.Test.YtlgbimpbdofloaaMarksRef3
import Derived.Test.YtlgbimpbdofloaaMarksNext2
namespace Go.Proofs.Ytlgbimpbdofloaa
open Go.RowKit
set_option linter.unusedVariables false
set_option linter.unusedSimpArgs false

def putB (bl : List Bool) (i : Int) (c : Bool) : Bool := decide (0 ≤ i) && decide (i < bl.length) && (bl.getD i.toNat false != c)
def putL (bl : List Bool) (i : Int) (c : Bool) : List Bool := if putB bl i c then bl.set i.toNat c else bl
def RPutP (w : World) (q g cap : Nat) (bl bl' : List Bool) (b : Bool) (e : Ending) (w' : World) : Prop := e = .returned (.bool b) ∧ (∃ g' cap', RM w' q g' cap' bl' ∧ (g' = g ∨ w.heap.size ≤ g')) ∧ Frm (· = q) w w'
theorem below_of2 {w w' : World} (h : Frm (fun k => w.heap.size ≤ k) w w') : Below w.heap.size w w' := ⟨h.os, h.tape, h.output, h.size, fun k hk => h.block k hk (by omega)⟩
theorem lst_cells {w : World} {B : Nat} {v : Value} {l : List Bool} (h : Lst 4 Value.bool w B v l) (hl : 0 < l.length) : ∃ g cap, v = .slice (some ⟨g, 0, none⟩) l.length cap ∧ B ≤ g ∧ l.length ≤ cap ∧ g < w.heap.size ∧ (∀ j (hj : j < l.length), w.cell? ⟨g, j, none⟩ = some (.bool l[j])) ∧ ∀ j, w.frozen? ⟨g, j, none⟩ = false := by
  have hcells := fun g hg => World.ownsRow.cells (g := g) h hg
  rcases h.2 with ⟨e, hn⟩ | ⟨g, cap, cur, e, hb, hgg, hcap, _⟩
  · omega
  · refine ⟨g, cap, e, hb, hcap, (Array.getElem?_eq_some_iff.1 hgg).1, fun k hk => ?_, fun j => frozen_of_row w g _ cur _ hgg⟩
    have h1 := hcells g (by rw [e]; rfl) k (.bool l[k]) (by rw [List.getElem?_map, List.getElem?_eq_getElem hk]; rfl)
    rw [Go.WideShapes.add_plain, Nat.zero_add] at h1
    exact h1
theorem rput_any (q g cap : Nat) (bl : List Bool) (i : Int) (c : Bool) (w : World) (h : RM w q g cap bl) : Calls Try.prog 18 #[.pointer (some ⟨q, 0, none⟩), .int .i64 i, .bool c] w (RPutP w q g cap bl (putL bl i c) (putB bl i c)) := by
  have hc0 := h.c0
  have hm := h.hm
  have hcp := h.hc
  by_cases h1 : 0 ≤ i ∧ i < bl.length
  · obtain ⟨k, rfl⟩ : ∃ k : Nat, i = k := ⟨i.toNat, by omega⟩
    have hk : k < bl.length := by omega
    have hcell := h.b k hk
    have hb : putB bl k c = (bl[k] != c) := by
      unfold putB
      rw [decide_eq_true h1.1, decide_eq_true h1.2]
      simp only [Int.toNat_natCast]
      rw [getB_at hk, Bool.true_and, Bool.true_and]
    by_cases hy : bl[k] = c
    · have hb2 : putB bl k c = false := by rw [hb, hy]; simp
      unfold putL
      rw [hb2]
      have hP : RPutP w q g cap bl bl false (.returned (.bool false)) w := ⟨rfl, ⟨g, cap, h, .inl rfl⟩, Frm.refl _ _⟩
      rw [hy] at hcell
      have hP := Lib.hid hP
      clear h h1 hb hb2 hy
      obtain ⟨m, hmm⟩ : ∃ m, bl.length = m := ⟨_, rfl⟩
      rw [hmm] at hc0 hk hm hcp
      clear hmm
      simp only [Bool.false_eq_true, if_false]
      have g1 : decide ((k : Int) < 0) = false := decide_eq_false (by omega)
      have g2 : decide ((m : Int) ≤ (k : Int)) = false := decide_eq_false (by omega)
      go_enter Try.func18, Try.ntmps18
      go_wp2
      go_ret
      exact hP.out
    · have hb2 : putB bl k c = true := by rw [hb]; simpa using hy
      unfold putL
      rw [hb2]
      simp only [if_true, Int.toNat_natCast]
      have hHX := Lib.hid h
      have HT0 := (Or.inr ⟨g, 0, cap, rfl, hcp, Nat.zero_le _, fun j hj => by rw [Nat.zero_add]; exact h.b j hj⟩ : Lx Value.bool w 0 (.slice (some ⟨g, 0, none⟩) bl.length cap) bl)
      have HT := Lib.hid (Lx.below HT0 ((Below.refl _ w).alloc (Nat.le_refl _) (.cells #[] 4)))
      have HM := Lib.hid (bools_made w w.heap.size (Nat.le_refl _))
      have hb0 : w.heap.size ≤ (w.alloc (.cells #[] 4)).heap.size := by simp
      have hcA := bkeep ((Below.refl _ w).alloc (Nat.le_refl _) (.cells #[] 4)) hc0
      have hf0 := h.f0
      have hk' := Lib.hid hk
      have hd : decide (bl[k] = c) = false := decide_eq_false hy
      have hqw := h.lt
      have hd2 : (bl[k] == c) = false := beq_eq_false_iff_ne.2 hy
      clear h h1 hb hb2 hy HT0
      generalize bl[k] = y at *
      obtain ⟨m, hmm⟩ : ∃ m, bl.length = m := ⟨_, rfl⟩
      have hmm' := Lib.hid hmm
      rw [hmm] at hc0 hk hm hcp HT hcA
      clear hmm
      have g1 : decide ((k : Int) < 0) = false := decide_eq_false (by omega)
      have g2 : decide ((m : Int) ≤ (k : Int)) = false := decide_eq_false (by omega)
      go_enter Try.func18, Try.ntmps18
      go_wp2_with (at_builtin; refine wpl_app_bx rfl (.tmp 30) (.tmp 34) _ w.heap.size _ _ [] bl rfl rfl HM.out HT.out (by have := hmm'.out; simp; omega) hb0 ?_ rfl rfl; intro v1 w1 hs1 hy1; have hfw := below_of2 (((Frm.refl _ w).alloc _).trans hy1); have e0 := bkeep hfw hc0; have g0 := bfree hfw hc0 hf0; obtain ⟨g', c', hv1, hg', hc', hgw, hcs, hfs⟩ := lst_cells hs1 (by have := hmm'.out; simp; omega); rw [show (([] : List Bool) ++ bl).length = m from hmm'.out] at hv1; subst hv1; have hcz := hcs k (by have := hmm'.out; simp; omega); have hfz := hfs k; have hqg : q ≠ g' := by omega)
      go_ret
      have hl := hmm'.out
      have hls : (bl.set k c).length = m := by rw [List.length_set]; exact hl
      have hne : ¬ (⟨q, 0, none⟩ : Addr).block = g' := hqg
      refine ⟨rfl, ⟨g', c', ⟨?_, ?_, ?_, ?_, hqg, by omega, by rw [hls]; simpa [hl] using hc', ?_⟩, .inr hg'⟩, (Frm.ofBelow (hfw.setCell (p := ⟨g', k, none⟩) hg' _)).trans (Frm.one _ q 0 _)⟩
      · rw [hls]
        exact cell_same ((Frm.one _ g' k _).cell (p := ⟨q, 0, none⟩) hqg e0)
      · exact (World.frozen?_setCell _ _ _ _).trans ((World.frozen?_setCell _ _ _ _).trans g0)
      · intro j hj
        rw [hls] at hj
        refine (Frm.one _ q 0 _).cell (p := ⟨g', j, none⟩) (fun e => hqg e.symm) ?_
        have hcj := hcs j (by simp; omega)
        by_cases ekj : k = j
        · subst ekj
          rw [List.getElem_set_self]
          exact cell_same hcj
        · rw [List.getElem_set_ne ekj]
          exact cell_off hcj ekj
      · intro j hj
        exact (World.frozen?_setCell _ _ _ _).trans ((World.frozen?_setCell _ _ _ _).trans (hfs j))
      · simpa using hgw
  · have e : putB bl i c = false := by
      unfold putB
      by_cases h2 : 0 ≤ i
      · rw [decide_eq_false (show ¬ i < (bl.length : Int) by omega), Bool.and_false, Bool.false_and]
      · rw [decide_eq_false h2, Bool.false_and, Bool.false_and]
    unfold putL
    rw [e]
    have hP : RPutP w q g cap bl bl false (.returned (.bool false)) w := ⟨rfl, ⟨g, cap, h, .inl rfl⟩, Frm.refl _ _⟩
    have hP := Lib.hid hP
    simp only [Bool.false_eq_true, if_false]
    obtain ⟨m, hmm⟩ : ∃ m, bl.length = m := ⟨_, rfl⟩
    rw [hmm] at hc0 h1 hm
    clear e h hmm
    by_cases h2 : i < 0
    · have g1 : decide (i < 0) = true := decide_eq_true h2
      go_enter Try.func18, Try.ntmps18
      go_wp2
      go_ret
      exact hP.out
    · have g1 : decide (i < 0) = false := decide_eq_false h2
      have g2 : decide ((m : Int) ≤ i) = true := decide_eq_true (by omega)
      clear h1 h2
      go_enter Try.func18, Try.ntmps18
      go_wp2
      go_ret
      exact hP.out
end Go.Proofs.Ytlgbimpbdofloaa
