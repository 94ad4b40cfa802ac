/-
  What is owed: counts; which comes next; it works.
-/
import Derived.Test.YtdaobfhkdbaklaaOwed4
namespace Go.Proofs.Ytdaobfhkdbaklaa
open Go.RowKit
set_option linter.unusedVariables false
set_option linter.unusedSimpArgs false

theorem sum_set (f : Nat → Nat) : ∀ (cs : List Nat) (p c : Nat) (h : p < cs.length), ((cs.set p c).map f).sum + f cs[p] = (cs.map f).sum + f c
  | [], p, c, h => by simp at h
  | a :: cs, 0, c, h => by simp [List.sum_cons]; omega
  | a :: cs, p + 1, c, h => by
    have ih := sum_set f cs p c (by simpa using h)
    simp only [List.set_cons_succ, List.map_cons, List.sum_cons, List.getElem_cons_succ]
    omega
theorem ones_add (c q : Nat) (hc : c < 128 ∧ c % 2 = 0) (hq : 1 ≤ q ∧ q ≤ 6) (h : c.testBit q = false) : Lib.onesCount (c ||| 2 ^ q) = Lib.onesCount c + 1 := by
  have h2 : ∀ c : Fin 128, ∀ q : Fin 7, c.val.testBit q.val = false → Lib.onesCount (c.val ||| 2 ^ q.val) = Lib.onesCount c.val + 1 := by decide +kernel
  exact h2 ⟨c, hc.1⟩ ⟨q, by omega⟩ h
theorem ones_off (c : Nat) (hc : c < 128 ∧ c % 2 = 0) (h : c ≠ 0) : Lib.onesCount c = Lib.onesCount (offC c) + 1 := by
  have h2 : ∀ c : Fin 128, c.val % 2 = 0 → c.val ≠ 0 → Lib.onesCount c.val = Lib.onesCount (offC c.val) + 1 := by decide +kernel
  exact h2 ⟨c, hc.1⟩ hc.2 h
theorem off_bit (c q : Nat) (hc : c < 128 ∧ c % 2 = 0) (h : c ≠ 0) (hq : q < 7) : (offC c).testBit q = (c.testBit q && decide (q ≠ tzK c)) := by
  have h2 : ∀ c : Fin 128, ∀ q : Fin 7, c.val % 2 = 0 → c.val ≠ 0 → (offC c.val).testBit q.val = (c.val.testBit q.val && decide (q.val ≠ tzK c.val)) := by decide +kernel
  exact h2 ⟨c, hc.1⟩ ⟨q, hq⟩ hc.2 h
theorem or_bit (c q r : Nat) : (c ||| 2 ^ q).testBit r = (c.testBit r || decide (r = q)) := by
  rw [Nat.testBit_or, Nat.testBit_two_pow]
  congr 1
  rw [decide_eq_decide]
  exact eq_comm
theorem lenC_zero (cs : List Nat) (hc : ∀ x ∈ cs, x < 128 ∧ x % 2 = 0) (h : lenC cs = 0) : ∀ x ∈ cs, x = 0 := by
  intro x hx
  have h1 : Lib.onesCount x = 0 := by
    unfold lenC at h
    exact List.sum_eq_zero_iff_forall_eq_nat.1 h _ (List.mem_map.2 ⟨x, hx, rfl⟩)
  have h2 : ∀ c : Fin 128, Lib.onesCount c.val = 0 → c.val = 0 := by decide +kernel
  exact h2 ⟨x, (hc x hx).1⟩ h1
/-- which place comes next, told by the kinds -/
def selC (cs : List Nat) (a : Nat) : List Int := ((List.range cs.length).filter fun i => decide (a ≤ i) && decide (cs.getD i 0 ≠ 0)).map fun (i : Nat) => (i : Int)
def nextC (cs : List Nat) (f : Int) : Int × Bool := match selC cs (max f 0).toNat with | x :: _ => (x, true) | [] => match selC cs 0 with | x :: _ => (x, true) | [] => (0, false)
theorem OW.next {w : World} {o h s gM many : Nat} {bs cs : List Nat} (H : OW w o h s gM many bs cs) (f : Int) : nextM bs many f = nextC cs f := by
  have hs : ∀ a, selF bs a many = selC cs a := fun a => by
    unfold selF selC
    rw [H.len]
    congr 1
    apply List.filter_congr
    intro i hi
    have := List.mem_range.1 hi
    rw [H.rel i (by rw [H.len]; exact this), getD_at (by rw [H.len]; exact this)]
  rw [nextM_eq, hs, hs]
  rfl
end Go.Proofs.Ytdaobfhkdbaklaa
