/-
  Where two texts differ (chapter 41).
-/
import Derived.Test.YtlmmmibnnbceeaaDoorAll
import Derived.Test.YtlmmmibnnbceeaaDoorBytes
import Derived.BigRegion
import Derived.Handy
namespace Go.Proofs.YtlmmmibnnbceeaaDoor
open Go.RowKit
set_option linter.unusedVariables false
set_option linter.unusedSimpArgs false

/-- do two texts differ at a place? -/
def pS (a b : ByteArray) (i : Nat) : Bool := decide (min a.size b.size ≤ i) || !decide (gd a i = gd b i)
/-- what the question's own variables hold -/
structure SE (a b : ByteArray) (N : Nat) (W : World) : Prop where
  c0 : W.cell? ⟨N, 0, none⟩ = some (.string a)
  c1 : W.cell? ⟨N + 1, 0, none⟩ = some (.string b)
  c2 : W.cell? ⟨N + 2, 0, none⟩ = some (.int .i64 (min a.size b.size : Nat))
theorem sp1_any (a b : ByteArray) (N : Nat) (W : World) (i : Nat) (h : SE a b N W) (hi : i ≤ 1000000) : Calls Tryd.prog 28 #[.int .i64 i, .pointer (some ⟨N + 2, 0, none⟩), .pointer (some ⟨N, 0, none⟩), .pointer (some ⟨N + 1, 0, none⟩)] W fun e W' => e = .returned (.bool (pS a b i)) ∧ Below W.heap.size W W' := by
  obtain ⟨c0, c1, c2⟩ := h
  by_cases hm : min a.size b.size ≤ i
  · have hp : pS a b i = true := by unfold pS; rw [decide_eq_true hm]; rfl
    rw [hp]
    have hd : decide (((min a.size b.size : Nat) : Int) ≤ (i : Int)) = true := decide_eq_true (by omega)
    generalize min a.size b.size = s at *
    clear hp
    go_enter Tryd.func28, Tryd.ntmps28
    go_wp2_with fail
    go_region
    go_wp2
    go_ret
    exact ⟨rfl, (Below.refl _ _).drew⟩
  · have hia : i < a.size := by omega
    have hib : i < b.size := by omega
    have hp : pS a b i = !decide (gd a i = gd b i) := by unfold pS; rw [decide_eq_false hm, Bool.false_or]
    rw [hp]
    have hd : decide (((min a.size b.size : Nat) : Int) ≤ (i : Int)) = false := decide_eq_false (by omega)
    have ga := gd_eq hia
    have gb := gd_eq hib
    have h1 : (i : Int) < (a.size : Int) := by omega
    have h2 : (i : Int) < (b.size : Int) := by omega
    generalize min a.size b.size = s at *
    clear hp
    go_enter Tryd.func28, Tryd.ntmps28
    go_wp2_with fail
    have hbne : ((gd a i : Int) != (gd b i : Int)) = !decide (gd a i = gd b i) := by
      by_cases e : gd a i = gd b i
      · rw [e]; simp
      · rw [decide_eq_false e, bne_iff_ne.2 (by omega)]; rfl
    go_region
    go_wp2
    go_ret
    exact ⟨rfl, (Below.refl _ _).drew⟩
set_option maxHeartbeats 1600000 in
theorem spans_any (a b : ByteArray) (w : World) (ha : a.size ≤ 1500) (hb : b.size ≤ 1500) : Calls Tryd.prog 14 #[.string a, .string b] w fun e w' => (∃ v B, e = .returned v ∧ w.heap.size ≤ B ∧ SpRow w' B v (rs (pS a b) (max a.size b.size))) ∧ Below w.heap.size w w' := by
  have hA : ∀ mn mx : Nat, mn = min a.size b.size → mx = max a.size b.size → Calls Tryd.prog 26 #[.int .i64 mx, .func (.func 28) #[] #[.pointer (some ⟨w.heap.size + 2, 0, none⟩), .pointer (some ⟨w.heap.size, 0, none⟩), .pointer (some ⟨w.heap.size + 1, 0, none⟩)]]
      (((w.alloc (.cells #[.string a] 9)).alloc (.cells #[.string b] 9)).alloc (.cells #[.int .i64 mn] 3)) fun e w' => (∃ v B, e = .returned v ∧ w.heap.size ≤ B ∧ SpRow w' B v (rs (pS a b) (max a.size b.size))) ∧ Below w.heap.size w w' := by
    rintro _ _ rfl rfl
    obtain ⟨W0, hW0⟩ : ∃ W0, ((w.alloc (.cells #[.string a] 9)).alloc (.cells #[.string b] 9)).alloc (.cells #[.int .i64 (min a.size b.size : Nat)] 3) = W0 := ⟨_, rfl⟩
    have hz0 : W0.heap.size = w.heap.size + 3 := by rw [← hW0]; simp
    have hb0 : Below w.heap.size w W0 := hW0 ▸ (((Below.refl _ w).alloc (Nat.le_refl _) _).alloc (by simp) _).alloc (by simp; omega) _
    have hse : SE a b w.heap.size W0 := by rw [← hW0]; exact ⟨by simp [go_sem], by simp [go_sem], by simp [go_sem]⟩
    rw [hW0]
    refine (allS_any (max a.size b.size) (by omega) ⟨#[]⟩ ⟨#[]⟩ ⟨#[]⟩ (w.heap.size + 2) w.heap.size (w.heap.size + 1) (pS a b) (SE a b w.heap.size) W0
      (fun A B h hf => ⟨hf.cell (p := ⟨w.heap.size, 0, none⟩) (by show ¬ (W0.heap.size ≤ w.heap.size); omega) h.c0, hf.cell (p := ⟨w.heap.size + 1, 0, none⟩) (by show ¬ (W0.heap.size ≤ w.heap.size + 1); omega) h.c1, hf.cell (p := ⟨w.heap.size + 2, 0, none⟩) (by show ¬ (W0.heap.size ≤ w.heap.size + 2); omega) h.c2⟩)
      hse (fun W' i h hi => sp1_any a b w.heap.size W' i h (by omega))).mono ?_
    rintro e w' ⟨⟨v, B, rfl, hB, hr⟩, hb⟩
    exact ⟨⟨v, B, rfl, by omega, hr⟩, bt hb0 hb⟩
  have hA := Lib.hid hA
  go_enter Tryd.func14, Tryd.ntmps14
  go_wp2_with fail
  all_goals first
    | (exfalso; omega)
    | with_reducible refine (hA.out a.size b.size (by omega) (by omega)).mono ?_
    | with_reducible refine (hA.out b.size a.size (by omega) (by omega)).mono ?_
    | with_reducible refine (hA.out a.size a.size (by omega) (by omega)).mono ?_
    | with_reducible refine (hA.out b.size b.size (by omega) (by omega)).mono ?_
  all_goals
    rintro e w' ⟨⟨v, B, rfl, hB, hr⟩, hb⟩
    go_wp2
    go_ret
    exact ⟨⟨v, B, rfl, hB, hr⟩, hb⟩
end Go.Proofs.YtlmmmibnnbceeaaDoor
