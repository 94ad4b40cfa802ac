/-
  What is owed, the reference: has, many.
-/
import Derived.Test.YtdaobfhkdbaklaaOwed9
namespace Go.Proofs.Ytdaobfhkdbaklaa
open Go.RowKit
set_option linter.unusedVariables false
set_option linter.unusedSimpArgs false

/-- the reference: for each place six truths -/
structure OR (w : World) (q g m : Nat) (cs : List Nat) : Prop where
  c0 : w.cell? ⟨q, 0, none⟩ = some (.slice (some ⟨g, 0, none⟩) m m)
  b : ∀ x r, x < m → r < 6 → w.cell? ⟨g, x * 6 + r, none⟩ = some (.bool ((cs.getD x 0).testBit (r + 1)))
  f : ∀ x r, x < m → r < 6 → w.frozen? ⟨g, x * 6 + r, none⟩ = false
  len : cs.length = m
  h24 : m ≤ 24
  ne : q ≠ g
theorem OR.frm {S : Nat → Prop} {w w' : World} {q g m : Nat} {cs : List Nat} (h : OR w q g m cs) (hf : Frm S w w') (h1 : ¬ S q) (h2 : ¬ S g) : OR w' q g m cs :=
  ⟨hf.cell h1 h.c0, fun x r hx hr => hf.cell (p := ⟨g, x * 6 + r, none⟩) h2 (h.b x r hx hr), fun x r hx hr => (hf.frozen (p := ⟨g, x * 6 + r, none⟩) h2 (World.block_lt_of_cell? w _ (h.b x r hx hr))).trans (h.f x r hx hr), h.len, h.h24, h.ne⟩
theorem rohas_any (q g m : Nat) (cs : List Nat) (i k : Int) (w : World) (h : OR w q g m cs) : Calls Try.prog 18 #[.pointer (some ⟨q, 0, none⟩), .int .i64 i, .int .i64 k] w fun e w' => e = .returned (.bool (hasO m cs i k)) ∧ w' = w := by
  have hc0 := h.c0
  have h24 := h.h24
  by_cases hin : 0 ≤ i ∧ i < m ∧ 1 ≤ k ∧ k ≤ 6
  · obtain ⟨p, rfl⟩ : ∃ p : Nat, i = p := ⟨i.toNat, by omega⟩
    obtain ⟨r, rfl⟩ : ∃ r : Nat, k = r + 1 := ⟨(k - 1).toNat, by omega⟩
    have hcell := h.b p r (by omega) (by omega)
    have hv : hasO m cs p ((r : Int) + 1) = (cs.getD p 0).testBit (r + 1) := by
      unfold hasO inB
      rw [decide_eq_true hin, Bool.true_and, Int.toNat_natCast, show ((r : Int) + 1).toNat = r + 1 by omega]
    rw [hv]
    clear h hv
    generalize (cs.getD p 0).testBit (r + 1) = t at *
    have e1 : IntKind.i64.wrap ((r : Int) + 1 - 1) = (r : Int) := by rw [IntWalk.i64_in _ (by omega)]; omega
    have hp : p < m := by omega
    have hr : r < 6 := by omega
    have g1 : decide ((0 : Int) ≤ (p : Int)) = true := decide_eq_true (by omega)
    have g2 : decide ((p : Int) < (m : Int)) = true := decide_eq_true (by omega)
    have g3 : decide ((1 : Int) ≤ (r : Int) + 1) = true := decide_eq_true (by omega)
    have g4 : decide ((r : Int) + 1 ≤ 6) = true := decide_eq_true (by omega)
    go_enter Try.func18, Try.ntmps18
    go_wp2
    go_ret
    exact ⟨rfl, rfl⟩
  · have hv : hasO m cs i k = false := by unfold hasO inB; rw [decide_eq_false hin, Bool.false_and]
    rw [hv]
    clear h hv
    go_enter Try.func18, Try.ntmps18
    go_wp2
    all_goals
      go_ret
      exact ⟨rfl, rfl⟩
end Go.Proofs.Ytdaobfhkdbaklaa
