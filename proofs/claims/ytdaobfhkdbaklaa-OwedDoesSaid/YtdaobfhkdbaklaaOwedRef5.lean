/-
  What is owed, the reference: dropped.
-/
import Derived.Test.YtdaobfhkdbaklaaOwedRef4
namespace Go.Proofs.Ytdaobfhkdbaklaa
open Go.RowKit
set_option linter.unusedVariables false
set_option linter.unusedSimpArgs false

/-- the kinds up to k of place p are let go -/
def clr (cs : List Nat) (p k : Nat) : List Nat := cs.set p ((cs.getD p 0) >>> (k + 1) <<< (k + 1))
theorem clr_bit (cs : List Nat) (p k x y : Nat) (hp : p < cs.length) : ((clr cs p k).getD x 0).testBit (y + 1) = if x = p then (decide (k ≤ y) && (cs.getD p 0).testBit (y + 1)) else (cs.getD x 0).testBit (y + 1) := by
  unfold clr
  by_cases e : x = p
  · subst e
    rw [if_pos rfl, List.getD_eq_getElem?_getD, List.getElem?_set_self hp]
    show ((cs.getD x 0) >>> (k + 1) <<< (k + 1)).testBit (y + 1) = _
    rw [Nat.testBit_shiftLeft, Nat.testBit_shiftRight]
    by_cases h : k ≤ y
    · rw [decide_eq_true h, decide_eq_true (show y + 1 ≥ k + 1 by omega), show k + 1 + (y + 1 - (k + 1)) = y + 1 by omega]
    · rw [decide_eq_false h, decide_eq_false (show ¬ y + 1 ≥ k + 1 by omega), Bool.false_and, Bool.false_and]
  · rw [if_neg e, List.getD_eq_getElem?_getD, List.getElem?_set_ne (fun e' => e e'.symm), ← List.getD_eq_getElem?_getD]
theorem OR.same {w : World} {q g m : Nat} {cs cs' : List Nat} (h : OR w q g m cs) (hl : cs'.length = m) (hc : ∀ x y, y < 6 → (cs'.getD x 0).testBit (y + 1) = (cs.getD x 0).testBit (y + 1)) : OR w q g m cs' :=
  ⟨h.c0, fun x y hx hy => by rw [hc x y hy]; exact h.b x y hx hy, h.f, hl, h.h24, h.ne⟩
theorem OR.clr0 {w : World} {q g m : Nat} {cs : List Nat} (h : OR w q g m cs) (p : Nat) (hp : p < m) : OR w q g m (clr cs p 0) :=
  h.same (by unfold clr; rw [List.length_set]; exact h.len) fun x y hy => by
    rw [clr_bit _ _ _ _ _ (by rw [h.len]; exact hp)]
    by_cases e : x = p
    · subst e; rw [if_pos rfl, decide_eq_true (Nat.zero_le _), Bool.true_and]
    · rw [if_neg e]
theorem OR.clrS {w : World} {q g m : Nat} {cs : List Nat} (p k : Nat) (hl : cs.length = m) (h : OR w q g m (clr cs p k)) (hp : p < m) (hk : k < 6) : OR (w.setCell ⟨g, p * 6 + k, none⟩ (.bool false)) q g m (clr cs p (k + 1)) :=
  h.set p k false hp hk (by unfold clr; rw [List.length_set]; exact hl) fun x y hy => by
    rw [clr_bit _ _ _ _ _ (by omega), clr_bit _ _ _ _ _ (by omega)]
    by_cases e : x = p
    · subst e
      rw [if_pos rfl, if_pos rfl]
      by_cases e2 : y = k
      · rw [if_pos ⟨rfl, e2⟩, decide_eq_false (by omega), Bool.false_and]
      · rw [if_neg (fun h => e2 h.2)]
        congr 1
        rw [decide_eq_decide]
        omega
    · rw [if_neg e, if_neg e, if_neg (fun h => e h.1)]
theorem OR.clr6 {w : World} {q g m : Nat} {cs : List Nat} (p : Nat) (hl : cs.length = m) (h : OR w q g m (clr cs p 6)) (hp : p < m) : OR w q g m (cs.set p 0) :=
  h.same (by rw [List.length_set]; exact hl) fun x y hy => by
    rw [clr_bit _ _ _ _ _ (by omega)]
    by_cases e : x = p
    · subst e
      rw [if_pos rfl, decide_eq_false (by omega), Bool.false_and, List.getD_eq_getElem?_getD, List.getElem?_set_self (by omega)]
      exact Nat.zero_testBit _
    · rw [if_neg e, List.getD_eq_getElem?_getD, List.getElem?_set_ne (fun e' => e e'.symm), ← List.getD_eq_getElem?_getD]
theorem rodrop_any (q g m : Nat) (cs : List Nat) (i : Int) (w : World) (h : OR w q g m cs) (hlt : ∀ x ∈ cs, x < 128 ∧ x % 2 = 0) : Calls Try.prog 14 #[.pointer (some ⟨q, 0, none⟩), .int .i64 i] w fun e w' => e = .returned (.int .i64 (dropN m cs i)) ∧ OR w' q g m (dropC m cs i) ∧ Frm (· = g) w w' := by
  have hM := romany_any q g m cs i w h
  have hc0 := h.c0
  have h24 := h.h24
  rw [manyC_eq m cs i hlt h.len] at hM
  by_cases hz : dropN m cs i = 0
  · have hX : OR w q g m (dropC m cs i) := by
      unfold dropC
      unfold dropN at hz
      by_cases hin : 0 ≤ i ∧ i < m
      · rw [if_pos hin]
        rw [if_pos hin] at hz
        have hpl : i.toNat < cs.length := by have := h.len; omega
        have h128 := hlt _ (List.getElem_mem hpl)
        rw [← getD_at hpl] at h128
        have h0 : cs.getD i.toNat 0 = 0 := by
          by_cases e : cs.getD i.toNat 0 = 0
          · exact e
          · have := (ones_pos _ h128.1).2 e
            omega
        have : cs.set i.toNat 0 = cs := by
          conv => rhs; rw [← List.set_getElem_self hpl]
          rw [← getD_at hpl, h0]
        rw [this]
        exact h
      · rw [if_neg hin]; exact h
    rw [hz] at hM ⊢
    have hX := Lib.hid hX
    have hM := Lib.hid hM
    clear h hlt hz
    generalize dropC m cs i = cs' at *
    go_enter Try.func14, Try.ntmps14
    go_wp2_with (go_at_call 27; (with_reducible refine hM.out.mono ?_); rintro e w1 ⟨rfl, rfl⟩)
    go_ret
    exact ⟨rfl, hX.out, Frm.refl _ _⟩
  · have hin : 0 ≤ i ∧ i < m := by
      unfold dropN at hz
      by_cases hin : 0 ≤ i ∧ i < m
      · exact hin
      · rw [if_neg hin] at hz; exact absurd rfl hz
    have hdc : dropC m cs i = cs.set i.toNat 0 := by unfold dropC; rw [if_pos hin]
    rw [hdc]
    obtain ⟨p, rfl⟩ : ∃ p : Nat, i = p := ⟨i.toNat, by omega⟩
    rw [Int.toNat_natCast]
    have hp : p < m := by omega
    have hpl : p < cs.length := by have := h.len; omega
    have hc : ∀ r, r < 6 → w.cell? ⟨g, p * 6 + r, none⟩ = some (.bool ((cs.getD p 0).testBit (r + 1))) ∧ w.frozen? ⟨g, p * 6 + r, none⟩ = false := fun r hr => ⟨h.b p r hp hr, h.f p r hp hr⟩
    have hX := OR.clr6 p h.len (OR.clrS p 5 h.len (OR.clrS p 4 h.len (OR.clrS p 3 h.len (OR.clrS p 2 h.len (OR.clrS p 1 h.len (OR.clrS p 0 h.len (h.clr0 p hp) hp (by omega)) hp (by omega)) hp (by omega)) hp (by omega)) hp (by omega)) hp (by omega)) hp
    have hF := (((((Frm.one w g (p * 6 + 0) (.bool false)).trans (Frm.one _ g (p * 6 + 1) (.bool false))).trans (Frm.one _ g (p * 6 + 2) (.bool false))).trans (Frm.one _ g (p * 6 + 3) (.bool false))).trans (Frm.one _ g (p * 6 + 4) (.bool false))).trans (Frm.one _ g (p * 6 + 5) (.bool false))
    rw [Nat.add_zero] at hX hF
    have hX := Lib.hid hX
    have hF := Lib.hid hF
    have hM := Lib.hid hM
    have hzv : ∀ w, (zeroValue 55).run Try.prog w = .ok (.agg #[.bool false, .bool false, .bool false, .bool false, .bool false, .bool false]) w := fun _ => by kernel_rfl
    obtain ⟨c0, z0⟩ := hc 0 (by omega)
    obtain ⟨c1, z1⟩ := hc 1 (by omega)
    obtain ⟨c2, z2⟩ := hc 2 (by omega)
    obtain ⟨c3, z3⟩ := hc 3 (by omega)
    obtain ⟨c4, z4⟩ := hc 4 (by omega)
    obtain ⟨c5, z5⟩ := hc 5 (by omega)
    rw [Nat.add_zero] at c0 z0
    generalize (cs.getD p 0).testBit (0 + 1) = t0 at *
    generalize (cs.getD p 0).testBit (1 + 1) = t1 at *
    generalize (cs.getD p 0).testBit (2 + 1) = t2 at *
    generalize (cs.getD p 0).testBit (3 + 1) = t3 at *
    generalize (cs.getD p 0).testBit (4 + 1) = t4 at *
    generalize (cs.getD p 0).testBit (5 + 1) = t5 at *
    have g1 : (0 : Int) < (dropN m cs p : Int) := by omega
    clear h hlt hc hdc
    generalize dropN m cs p = n at *
    go_enter Try.func14, Try.ntmps14
    go_wp2_with (go_at_call 27; (with_reducible refine hM.out.mono ?_); rintro e w1 ⟨rfl, rfl⟩)
    go_ret
    exact ⟨rfl, hX.out, hF.out⟩
end Go.Proofs.Ytdaobfhkdbaklaa
