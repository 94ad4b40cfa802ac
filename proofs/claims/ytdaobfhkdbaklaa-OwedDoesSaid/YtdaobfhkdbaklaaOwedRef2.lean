/-
  What is owed, the reference: add.
-/
import Derived.Test.YtdaobfhkdbaklaaOwedRef
namespace Go.Proofs.Ytdaobfhkdbaklaa
open Go.RowKit
set_option linter.unusedVariables false
set_option linter.unusedSimpArgs false

theorem OR.set {w : World} {q g m : Nat} {cs cs' : List Nat} (h : OR w q g m cs) (p r : Nat) (b : Bool) (hp : p < m) (hr : r < 6) (hl : cs'.length = m)
    (hc : ∀ x y, y < 6 → (cs'.getD x 0).testBit (y + 1) = if x = p ∧ y = r then b else (cs.getD x 0).testBit (y + 1)) : OR (w.setCell ⟨g, p * 6 + r, none⟩ (.bool b)) q g m cs' := by
  refine ⟨(Frm.one w g (p * 6 + r) _).cell (p := ⟨q, 0, none⟩) h.ne h.c0, fun x y hx hy => ?_, fun x y hx hy => (World.frozen?_setCell _ _ _ _).trans (h.f x y hx hy), hl, h.h24, h.ne⟩
  rw [hc x y hy]
  by_cases e : p * 6 + r = x * 6 + y
  · rw [if_pos ⟨by omega, by omega⟩, ← e]
    have := h.b p r hp hr
    exact cell_same this
  · rw [if_neg (by rintro ⟨rfl, rfl⟩; exact e rfl)]
    exact cell_off (h.b x y hx hy) e
theorem roadd_any (q g m : Nat) (cs : List Nat) (i k : Int) (w : World) (h : OR w q g m cs) : Calls Try.prog 11 #[.pointer (some ⟨q, 0, none⟩), .int .i64 i, .int .i64 k] w fun e w' => e = .returned (.bool (addB m cs i k)) ∧ OR w' q g m (addC m cs i k) ∧ Frm (· = g) w w' := by
  have hc0 := h.c0
  have h24 := h.h24
  by_cases hin : 0 ≤ i ∧ i < m ∧ 1 ≤ k ∧ k ≤ 6
  · obtain ⟨p, rfl⟩ : ∃ p : Nat, i = p := ⟨i.toNat, by omega⟩
    obtain ⟨r, rfl⟩ : ∃ r : Nat, k = r + 1 := ⟨(k - 1).toNat, by omega⟩
    have hp : p < m := by omega
    have hr : r < 6 := by omega
    have hcell := h.b p r hp hr
    have hfz := h.f p r hp hr
    have hv : addB m cs p ((r : Int) + 1) = !(cs.getD p 0).testBit (r + 1) := by
      unfold addB inB
      rw [decide_eq_true hin, Bool.true_and, Int.toNat_natCast, show ((r : Int) + 1).toNat = r + 1 by omega]
    have hc : addC m cs p ((r : Int) + 1) = if (!(cs.getD p 0).testBit (r + 1)) then cs.set p (cs.getD p 0 ||| 2 ^ (r + 1)) else cs := by
      unfold addC
      rw [hv, Int.toNat_natCast, show ((r : Int) + 1).toNat = r + 1 by omega]
    rw [hv, hc]
    have e1 : IntKind.i64.wrap ((r : Int) + 1 - 1) = (r : Int) := by rw [IntWalk.i64_in _ (by omega)]; omega
    have g1 : decide ((p : Int) < 0) = false := decide_eq_false (by omega)
    have g2 : decide ((m : Int) ≤ (p : Int)) = false := decide_eq_false (by omega)
    have g3 : decide ((r : Int) + 1 < 1) = false := decide_eq_false (by omega)
    have g4 : decide ((6 : Int) < (r : Int) + 1) = false := decide_eq_false (by omega)
    have hX : OR (w.setCell ⟨g, p * 6 + r, none⟩ (.bool true)) q g m (cs.set p (cs.getD p 0 ||| 2 ^ (r + 1))) := by
      have hpl : p < cs.length := by rw [h.len]; exact hp
      refine h.set p r true hp hr (by rw [List.length_set]; exact h.len) fun x y hy => ?_
      by_cases e : x = p
      · subst e
        rw [List.getD_eq_getElem?_getD, List.getElem?_set_self hpl]
        show (cs.getD x 0 ||| 2 ^ (r + 1)).testBit (y + 1) = _
        rw [or_bit]
        by_cases e2 : y = r
        · rw [if_pos ⟨rfl, e2⟩, decide_eq_true (by omega), Bool.or_true]
        · rw [if_neg (fun h => e2 h.2), decide_eq_false (by omega), Bool.or_false]
      · rw [if_neg (fun h => e h.1), List.getD_eq_getElem?_getD, List.getElem?_set_ne (fun e' => e e'.symm), ← List.getD_eq_getElem?_getD]
    have hX := Lib.hid hX
    have hh := Lib.hid h
    have hF := Lib.hid (Frm.one w g (p * 6 + r) (.bool true))
    clear h hv hc
    cases ht : (cs.getD p 0).testBit (r + 1) with
    | true =>
      rw [ht] at hcell
      clear ht
      simp only [Bool.not_true, Bool.false_eq_true, if_false]
      go_enter Try.func11, Try.ntmps11
      go_wp2
      go_ret
      exact ⟨rfl, hh.out, Frm.refl _ _⟩
    | false =>
      rw [ht] at hcell
      clear ht
      simp only [Bool.not_false, if_true]
      go_enter Try.func11, Try.ntmps11
      go_wp2
      go_ret
      exact ⟨rfl, hX.out, hF.out⟩
  · have hv : addB m cs i k = false := by unfold addB inB; rw [decide_eq_false hin, Bool.false_and]
    have hc : addC m cs i k = cs := by unfold addC; rw [hv]; rfl
    rw [hv, hc]
    have hh := Lib.hid h
    clear h hv hc
    go_enter Try.func11, Try.ntmps11
    go_wp2
    all_goals
      go_ret
      exact ⟨rfl, hh.out, Frm.refl _ _⟩
end Go.Proofs.Ytdaobfhkdbaklaa
