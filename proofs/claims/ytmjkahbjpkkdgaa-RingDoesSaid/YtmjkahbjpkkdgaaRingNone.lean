/-
  A ring that is none.
-/
import Derived.Test.YtmjkahbjpkkdgaaRing5I
namespace Go.Proofs.Ytmjkahbjpkkdgaa
open Go.RowKit
set_option linter.unusedVariables false
set_option linter.unusedSimpArgs false

theorem belowF {a b c : World} {S : Nat → Prop} (h : Below a.heap.size a b) (hf : Frm S b c) (hs : ∀ k, S k → a.heap.size ≤ k) : Below a.heap.size a c :=
  ⟨hf.os.trans h.os, hf.tape.trans h.tape, hf.output.trans h.output, Nat.le_trans h.size hf.size, fun k hk => (hf.block k (Nat.lt_of_lt_of_le hk h.size) (fun hx => by have := hs k hx; omega)).trans (h.block k hk)⟩
theorem works_any (w : World) : Calls Try.prog 6 #[] w fun e w' => e = .returned (.bool true) ∧ Below w.heap.size w w' := by
  have hN := Lib.hid (newI_any 1 w (by decide))
  have hz : zCI 1 = [0] := rfl
  go_enter Try.func6, Try.ntmps6
  go_wp2_with (go_at_call 7; (with_reducible refine hN.out.mono ?_); rintro e w1 ⟨r, g, rfl, hR1, hr1, hg1, hb1⟩)
  rw [hz] at hR1
  have hP1 := Lib.hid (pushI_ok r g 0 0 [0] 5 w1 hR1 (by decide))
  have e1 : (0 + 0) % [(0 : Int)].length = 0 := rfl
  rw [e1] at hP1
  have hP2 := Lib.hid (fun w h => pushI_full r g 0 1 [5] 6 w h rfl)
  go_wp2_with (first | (go_at_call 9; (with_reducible refine hP1.out.mono ?_); rintro e w2 ⟨rfl, hR2, hf2⟩) | (go_at_call 9; (with_reducible refine (hP2.out _ hR2).mono ?_); rintro e w3 ⟨rfl, m3, rfl⟩))
  have hP3 := Lib.hid (popI_any r g 0 1 [5] _ (hR2.below (bdraws0 w2 m3)))
  have hv : atVI (LI [5] 0 1) 0 = .tuple #[.int .i64 5, .bool true] := rfl
  rw [hv] at hP3
  go_wp2_with (go_at_call 11; (with_reducible refine hP3.out.mono ?_); rintro e w4 ⟨rfl, ⟨D, fr', hR4, hD4, _⟩, hf4⟩)
  have hR4 : RGI w4 r g fr' 0 D := hR4
  have hLn := Lib.hid (lenI_any r g fr' 0 D w4 hR4)
  have hRm := roomI_any r g fr' 0 D w4 hR4
  rw [hD4] at hRm
  have hRm := Lib.hid hRm
  go_wp2_with (first | (go_at_call 16; (with_reducible refine hLn.out.mono ?_); rintro e w5 ⟨rfl, rfl⟩) | (go_at_call 17; (with_reducible refine hRm.out.mono ?_); rintro e w6 ⟨rfl, m6, rfl⟩))
  go_ret
  have hS : ∀ k, (k = r ∨ k = g) → w.heap.size ≤ k := fun k h => by rcases h with rfl | rfl <;> assumption
  exact ⟨rfl, bdraws (belowF (bdraws (belowF hb1 hf2 hS) m3) hf4 hS) m6⟩
set_option maxHeartbeats 1600000 in
theorem walk_RingNone (i : Int) (ui : (Lit.int .i64 i).wf = true) {w : World} :
    Calls Try.prog 5 #[.int .i64 i] w fun e w' => e = .returned (.bool true) ∧ Below w.heap.size w w' := by
  have hbd := bounds_i64 ui
  go_enter Try.func5, Try.ntmps5
  go_wp2_with (first | (go_at_call 6; (with_reducible refine (works_any _).mono ?_); rintro e w1 ⟨rfl, hb1⟩) | (go_at_call 11; (with_reducible refine (popI_nil _).mono ?_); rintro e w3 ⟨rfl, rfl⟩) | (go_at_call 15; (with_reducible refine (atI_nil _ _).mono ?_); rintro e w3 ⟨rfl, rfl⟩) | (go_at_call 18; (with_reducible refine (allI_fn none _).mono ?_); rintro e w3 ⟨rfl, rfl⟩) | (go_at_call 9; (with_reducible refine (pushI_nil _ _).mono ?_); rintro e w3 ⟨rfl, rfl⟩) | (go_at_call 14; (with_reducible refine (dropI_nil _ _).mono ?_); rintro e w3 ⟨rfl, rfl⟩) | (go_at_call 16; (with_reducible refine (lenI_nil _).mono ?_); rintro e w3 ⟨rfl, rfl⟩) | (go_at_call 17; (with_reducible refine (roomI_nil _).mono ?_); rintro e w3 ⟨rfl, rfl⟩))
  have hA : Below w1.heap.size w1 ((w1.alloc (.cells #[.bool false] 4)).alloc (.cells #[.pointer none] 24)) := ((Below.refl _ _).alloc (Nat.le_refl _) _).alloc (by simp) _
  have hcP : ((w1.alloc (.cells #[.bool false] 4)).alloc (.cells #[.pointer none] 24)).cell? ⟨w1.heap.size + 1, 0, none⟩ = some (.pointer none) := by simp [go_sem]
  have hcF : ((w1.alloc (.cells #[.bool false] 4)).alloc (.cells #[.pointer none] 24)).cell? ⟨w1.heap.size, 0, none⟩ = some (.bool false) := by simp [go_sem]
  have hA1 := Lib.hid (all1I_nil (.func 25) #[] #[.pointer (some ⟨w1.heap.size, 0, none⟩)] _ _ hcP)
  go_at_call 27
  with_reducible refine hA1.out.mono ?_
  rintro e w2 ⟨rfl, hb2⟩
  have hcF2 := bkeep hb2 hcF
  have hbb := bt hb1 (bt hA hb2)
  go_wp2_with (first | (go_at_call 6; (with_reducible refine (works_any _).mono ?_); rintro e w1 ⟨rfl, hb1⟩) | (go_at_call 11; (with_reducible refine (popI_nil _).mono ?_); rintro e w3 ⟨rfl, rfl⟩) | (go_at_call 15; (with_reducible refine (atI_nil _ _).mono ?_); rintro e w3 ⟨rfl, rfl⟩) | (go_at_call 18; (with_reducible refine (allI_fn none _).mono ?_); rintro e w3 ⟨rfl, rfl⟩) | (go_at_call 9; (with_reducible refine (pushI_nil _ _).mono ?_); rintro e w3 ⟨rfl, rfl⟩) | (go_at_call 14; (with_reducible refine (dropI_nil _ _).mono ?_); rintro e w3 ⟨rfl, rfl⟩) | (go_at_call 16; (with_reducible refine (lenI_nil _).mono ?_); rintro e w3 ⟨rfl, rfl⟩) | (go_at_call 17; (with_reducible refine (roomI_nil _).mono ?_); rintro e w3 ⟨rfl, rfl⟩))
  go_ret
  exact ⟨rfl, hbb⟩
end Go.Proofs.Ytmjkahbjpkkdgaa
