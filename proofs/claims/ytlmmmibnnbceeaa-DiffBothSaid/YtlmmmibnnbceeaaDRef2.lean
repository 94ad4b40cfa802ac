/-
  Where two texts differ (chapter 41), the reference's marks.
-/
import Derived.Test.YtlmmmibnnbceeaaDRef
import Derived.Test.YtlmmmibnnbceeaaDraw
namespace Go.Proofs.Ytlmmmibnnbceeaa
open Go.RowKit
set_option linter.unusedVariables false
set_option linter.unusedSimpArgs false

/-- marks: the first k of n places are marked as p says -/
structure MK (W : World) (g n k : Nat) (p : Nat → Bool) : Prop where
  c : ∀ j, j < n → W.cell? ⟨g, j, none⟩ = some (.bool (decide (j < k) && p j))
  f : ∀ j, j < n → W.frozen? ⟨g, j, none⟩ = false
theorem cell_off {W : World} {g i j : Nat} {v u : Value} (h : W.cell? ⟨g, j, none⟩ = some u) (hne : i ≠ j) : (W.setCell ⟨g, i, none⟩ v).cell? ⟨g, j, none⟩ = some u := by
  simp [go_sem, h, hne]
theorem cell_same {W : World} {g j : Nat} {v u : Value} (h : W.cell? ⟨g, j, none⟩ = some u) : (W.setCell ⟨g, j, none⟩ v).cell? ⟨g, j, none⟩ = some v := by
  simp [go_sem, h]
theorem MK.step {W : World} {g n k : Nat} {p : Nat → Bool} (h : MK W g n k p) (hk : k < n) : MK (W.setCell ⟨g, k, none⟩ (.bool (p k))) g n (k + 1) p := by
  refine ⟨fun j hj => ?_, fun j hj => (World.frozen?_setCell _ _ _ _).trans (h.f j hj)⟩
  by_cases e : k = j
  · subst e
    rw [cell_same (h.c k hj), decide_eq_true (by omega), Bool.true_and]
  · have : decide (j < k + 1) = decide (j < k) := by rw [decide_eq_decide]; omega
    rw [this]
    exact cell_off (h.c j hj) e
theorem alb' (W : World) (o : Obj) : Below W.heap.size W (W.alloc o) := (Below.refl _ _).alloc (Nat.le_refl _) _
theorem MK.keep {W W' : World} {g n k : Nat} {p : Nat → Bool} (h : MK W g n k p) (hb : Below W.heap.size W W') : MK W' g n k p := ⟨fun j hj => bkeep hb (h.c j hj), fun j hj => bfree hb (h.c j hj) (h.f j hj)⟩
set_option maxHeartbeats 3200000 in
theorem rspans_any (a b : ByteArray) (w : World) (ha : a.size ≤ 1500) (hb : b.size ≤ 1500) : Calls Try.prog 11 #[.string a, .string b] w fun e w' => (∃ v B, e = .returned v ∧ w.heap.size ≤ B ∧ SpRow w' B v (rs (pS a b) (max a.size b.size))) ∧ Below w.heap.size w w' := by
  by_cases hab : a.size < b.size
  · rw [Nat.max_eq_right (by omega)]
    have hmk := mk_full (P := Try.prog) 45 4 (.bool false) 1 Try.underlying45 (by kernel_rfl) rfl (b.size) (b.size : Nat) rfl (by omega) (by omega)
    have h0 : MK (w.alloc (.cells (madeCells #[.bool false] (b.size)) 4)) w.heap.size (b.size) 0 (pS a b) := ⟨fun j hj => by rw [decide_eq_false (by omega), Bool.false_and]; exact made_cell w 4 _ _ j hj, fun j hj => made_free w 4 _ _ j⟩
    have hB0 := alb' w (.cells (madeCells #[.bool false] (b.size)) 4)
    have hga := fun i (h : i < a.size) => gd_eq h
    have hgb := fun i (h : i < b.size) => gd_eq h
    have hga := Lib.hid hga
    have hgb := Lib.hid hgb
    go_enter Try.func11, Try.ntmps11
    go_wp2_with fail
    generalize w.alloc (.cells (madeCells #[.bool false] (b.size)) 4) = w1 at *
    go_loopw [6] (fun i wr => ∃ k : Nat, k ≤ b.size ∧ i = .int .i64 k ∧ Hid (MK wr w.heap.size (b.size) k (pS a b)) ∧ Hid (Below w.heap.size w wr)) (fun i _ => b.size - (intOf i).toNat)
    case atStart => exact ⟨0, Nat.zero_le _, rfl, h0, hB0⟩
    case round =>
      obtain ⟨k, hk, rfl, hM, hB⟩ := hrel
      clear h0 hB0
      by_cases hlt : k < b.size
      · have hd : decide ((k : Int) < ((b.size : Nat) : Int)) = true := decide_eq_true (by omega)
        have z1 := hM.out.c k hlt
        have z2 := hM.out.f k hlt
        have hst := hM.out.step hlt
        have hBs := hB.out.setCell (p := ⟨w.heap.size, k, none⟩) (Nat.le_refl _) (.bool (pS a b k))
        have hnx : ∀ t : Bool, t = pS a b k → MK (wr.setCell ⟨w.heap.size, k, none⟩ (.bool t)) w.heap.size (b.size) (k + 1) (pS a b) ∧ Below w.heap.size w (wr.setCell ⟨w.heap.size, k, none⟩ (.bool t)) := by
          rintro t rfl
          exact ⟨hst, hBs⟩
        have hnx := Lib.hid hnx
        clear hst hBs
        by_cases h1 : a.size ≤ k
        · have d1 : decide ((a.size : Int) ≤ (k : Int)) = true := decide_eq_true (by omega)
          have hp : true = pS a b k := by unfold pS; rw [decide_eq_true (by omega)]; rfl
          obtain ⟨m1, m2⟩ := hnx.out true hp
          have m1 := Lib.hid m1
          have m2 := Lib.hid m2
          clear hp
          go_wp2_with fail
          have MT : True := trivial
          refine wp_region_held_drew (S := (fun w' : World => True)) (by kernel_rfl) ?_ (fun hHeld => ?_)
          · exact trivial
          first | (refine tw (i := 0) (v := ?_) ?_ hHeld ?_; rotate_left; focus (intro w hSw; (try dsimp only at hSw); go_simp; (try with_reducible rfl); done)) | refine tn (i := 0) hHeld ?_
          try simp only [Act.put, List.setIfInBounds_toArray, List.set_cons_zero, List.set_cons_succ]
          first | (refine tw (i := 1) (v := ?_) ?_ hHeld ?_; rotate_left; focus (intro w hSw; (try dsimp only at hSw); go_simp; (try with_reducible rfl); done)) | refine tn (i := 1) hHeld ?_
          try simp only [Act.put, List.setIfInBounds_toArray, List.set_cons_zero, List.set_cons_succ]
          first | (refine tw (i := 2) (v := ?_) ?_ hHeld ?_; rotate_left; focus (intro w hSw; (try dsimp only at hSw); go_simp; (try with_reducible rfl); done)) | refine tn (i := 2) hHeld ?_
          try simp only [Act.put, List.setIfInBounds_toArray, List.set_cons_zero, List.set_cons_succ]
          first | (refine tw (i := 3) (v := ?_) ?_ hHeld ?_; rotate_left; focus (intro w hSw; (try dsimp only at hSw); go_simp; (try with_reducible rfl); done)) | refine tn (i := 3) hHeld ?_
          try simp only [Act.put, List.setIfInBounds_toArray, List.set_cons_zero, List.set_cons_succ]
          first | (refine tw (i := 4) (v := ?_) ?_ hHeld ?_; rotate_left; focus (intro w hSw; (try dsimp only at hSw); go_simp; (try with_reducible rfl); done)) | refine tn (i := 4) hHeld ?_
          try simp only [Act.put, List.setIfInBounds_toArray, List.set_cons_zero, List.set_cons_succ]
          first | (refine tw (i := 5) (v := ?_) ?_ hHeld ?_; rotate_left; focus (intro w hSw; (try dsimp only at hSw); go_simp; (try with_reducible rfl); done)) | refine tn (i := 5) hHeld ?_
          try simp only [Act.put, List.setIfInBounds_toArray, List.set_cons_zero, List.set_cons_succ]
          first | (refine tw (i := 6) (v := ?_) ?_ hHeld ?_; rotate_left; focus (intro w hSw; (try dsimp only at hSw); go_simp; (try with_reducible rfl); done)) | refine tn (i := 6) hHeld ?_
          try simp only [Act.put, List.setIfInBounds_toArray, List.set_cons_zero, List.set_cons_succ]
          first | (refine tw (i := 7) (v := ?_) ?_ hHeld ?_; rotate_left; focus (intro w hSw; (try dsimp only at hSw); go_simp; (try with_reducible rfl); done)) | refine tn (i := 7) hHeld ?_
          try simp only [Act.put, List.setIfInBounds_toArray, List.set_cons_zero, List.set_cons_succ]
          first | (refine tw (i := 8) (v := ?_) ?_ hHeld ?_; rotate_left; focus (intro w hSw; (try dsimp only at hSw); go_simp; (try with_reducible rfl); done)) | refine tn (i := 8) hHeld ?_
          try simp only [Act.put, List.setIfInBounds_toArray, List.set_cons_zero, List.set_cons_succ]
          first | (refine tw (i := 9) (v := ?_) ?_ hHeld ?_; rotate_left; focus (intro w hSw; (try dsimp only at hSw); go_simp; (try with_reducible rfl); done)) | refine tn (i := 9) hHeld ?_
          try simp only [Act.put, List.setIfInBounds_toArray, List.set_cons_zero, List.set_cons_succ]
          first | (refine tw (i := 10) (v := ?_) ?_ hHeld ?_; rotate_left; focus (intro w hSw; (try dsimp only at hSw); go_simp; (try with_reducible rfl); done)) | refine tn (i := 10) hHeld ?_
          try simp only [Act.put, List.setIfInBounds_toArray, List.set_cons_zero, List.set_cons_succ]
          first | (refine tw (i := 11) (v := ?_) ?_ hHeld ?_; rotate_left; focus (intro w hSw; (try dsimp only at hSw); go_simp; (try with_reducible rfl); done)) | refine tn (i := 11) hHeld ?_
          try simp only [Act.put, List.setIfInBounds_toArray, List.set_cons_zero, List.set_cons_succ]
          first | (refine tw (i := 12) (v := ?_) ?_ hHeld ?_; rotate_left; focus (intro w hSw; (try dsimp only at hSw); go_simp; (try with_reducible rfl); done)) | refine tn (i := 12) hHeld ?_
          try simp only [Act.put, List.setIfInBounds_toArray, List.set_cons_zero, List.set_cons_succ]
          first | (refine tw (i := 13) (v := ?_) ?_ hHeld ?_; rotate_left; focus (intro w hSw; (try dsimp only at hSw); go_simp; (try with_reducible rfl); done)) | refine tn (i := 13) hHeld ?_
          try simp only [Act.put, List.setIfInBounds_toArray, List.set_cons_zero, List.set_cons_succ]
          first | (refine tw (i := 14) (v := ?_) ?_ hHeld ?_; rotate_left; focus (intro w hSw; (try dsimp only at hSw); go_simp; (try with_reducible rfl); done)) | refine tn (i := 14) hHeld ?_
          try simp only [Act.put, List.setIfInBounds_toArray, List.set_cons_zero, List.set_cons_succ]
          first | (refine tw (i := 15) (v := ?_) ?_ hHeld ?_; rotate_left; focus (intro w hSw; (try dsimp only at hSw); go_simp; (try with_reducible rfl); done)) | refine tn (i := 15) hHeld ?_
          try simp only [Act.put, List.setIfInBounds_toArray, List.set_cons_zero, List.set_cons_succ]
          first | (refine tw (i := 16) (v := ?_) ?_ hHeld ?_; rotate_left; focus (intro w hSw; (try dsimp only at hSw); go_simp; (try with_reducible rfl); done)) | refine tn (i := 16) hHeld ?_
          try simp only [Act.put, List.setIfInBounds_toArray, List.set_cons_zero, List.set_cons_succ]
          first | (refine tw (i := 17) (v := ?_) ?_ hHeld ?_; rotate_left; focus (intro w hSw; (try dsimp only at hSw); go_simp; (try with_reducible rfl); done)) | refine tn (i := 17) hHeld ?_
          try simp only [Act.put, List.setIfInBounds_toArray, List.set_cons_zero, List.set_cons_succ]
          first | (refine tw (i := 18) (v := ?_) ?_ hHeld ?_; rotate_left; focus (intro w hSw; (try dsimp only at hSw); go_simp; (try with_reducible rfl); done)) | refine tn (i := 18) hHeld ?_
          try simp only [Act.put, List.setIfInBounds_toArray, List.set_cons_zero, List.set_cons_succ]
          first | (refine tw (i := 19) (v := ?_) ?_ hHeld ?_; rotate_left; focus (intro w hSw; (try dsimp only at hSw); go_simp; (try with_reducible rfl); done)) | refine tn (i := 19) hHeld ?_
          try simp only [Act.put, List.setIfInBounds_toArray, List.set_cons_zero, List.set_cons_succ]
          first | (refine tw (i := 20) (v := ?_) ?_ hHeld ?_; rotate_left; focus (intro w hSw; (try dsimp only at hSw); go_simp; (try with_reducible rfl); done)) | refine tn (i := 20) hHeld ?_
          try simp only [Act.put, List.setIfInBounds_toArray, List.set_cons_zero, List.set_cons_succ]
          first | (refine tw (i := 21) (v := ?_) ?_ hHeld ?_; rotate_left; focus (intro w hSw; (try dsimp only at hSw); go_simp; (try with_reducible rfl); done)) | refine tn (i := 21) hHeld ?_
          try simp only [Act.put, List.setIfInBounds_toArray, List.set_cons_zero, List.set_cons_succ]
          refine call_next (i := 22) (by kernel_rfl) (by rfl) ?_
          intro o ho K hK
          simp only [List.getElem?_toArray, List.getElem?_cons_succ, List.getElem?_cons_zero, Option.some.injEq] at ho
          subst ho
          first | (fail; refine hK.out _ _ ?_ (fun hHeld => ?_)) | (go_simp; first | (with_reducible refine hK.out _ _ ?_ (fun hHeld => ?_)) | (fail; refine hK.out _ _ ?_ (fun hHeld => ?_)))
          · first | (with_reducible exact True.intro) | ((try simp only [World.cell?_drew] at *); repeat' (first | (with_reducible assumption) | (with_reducible refine And.intro ?_ ?_) | (refine cell_set_ne ?_ (by first | (simp; done) | (simp; omega))) | (refine bkeep (bdraws0 _ _) ?_; with_reducible assumption)))
          clear hK K
          try simp only [Act.put, List.setIfInBounds_toArray, List.set_cons_zero, List.set_cons_succ]
          refine wpAnyH_done (by kernel_rfl) ?_ _
          go_wp2
          exact ⟨⟨k + 1, by omega, by go_num, m1.out.keep (Below.refl _ _).drew, m2.out.drew⟩, by simp [intOf]; omega⟩
        · have d1 : decide ((a.size : Int) ≤ (k : Int)) = false := decide_eq_false (by omega)
          by_cases h2 : b.size ≤ k
          · have d2 : decide ((b.size : Int) ≤ (k : Int)) = true := decide_eq_true (by omega)
            have hp : true = pS a b k := by unfold pS; rw [decide_eq_true (by omega)]; rfl
            obtain ⟨m1, m2⟩ := hnx.out true hp
            have m1 := Lib.hid m1
            have m2 := Lib.hid m2
            clear hp
            go_wp2_with fail
            have MT : True := trivial
            refine wp_region_held_drew (S := (fun w' : World => True)) (by kernel_rfl) ?_ (fun hHeld => ?_)
            · exact trivial
            first | (refine tw (i := 0) (v := ?_) ?_ hHeld ?_; rotate_left; focus (intro w hSw; (try dsimp only at hSw); go_simp; (try with_reducible rfl); done)) | refine tn (i := 0) hHeld ?_
            try simp only [Act.put, List.setIfInBounds_toArray, List.set_cons_zero, List.set_cons_succ]
            first | (refine tw (i := 1) (v := ?_) ?_ hHeld ?_; rotate_left; focus (intro w hSw; (try dsimp only at hSw); go_simp; (try with_reducible rfl); done)) | refine tn (i := 1) hHeld ?_
            try simp only [Act.put, List.setIfInBounds_toArray, List.set_cons_zero, List.set_cons_succ]
            first | (refine tw (i := 2) (v := ?_) ?_ hHeld ?_; rotate_left; focus (intro w hSw; (try dsimp only at hSw); go_simp; (try with_reducible rfl); done)) | refine tn (i := 2) hHeld ?_
            try simp only [Act.put, List.setIfInBounds_toArray, List.set_cons_zero, List.set_cons_succ]
            first | (refine tw (i := 3) (v := ?_) ?_ hHeld ?_; rotate_left; focus (intro w hSw; (try dsimp only at hSw); go_simp; (try with_reducible rfl); done)) | refine tn (i := 3) hHeld ?_
            try simp only [Act.put, List.setIfInBounds_toArray, List.set_cons_zero, List.set_cons_succ]
            first | (refine tw (i := 4) (v := ?_) ?_ hHeld ?_; rotate_left; focus (intro w hSw; (try dsimp only at hSw); go_simp; (try with_reducible rfl); done)) | refine tn (i := 4) hHeld ?_
            try simp only [Act.put, List.setIfInBounds_toArray, List.set_cons_zero, List.set_cons_succ]
            first | (refine tw (i := 5) (v := ?_) ?_ hHeld ?_; rotate_left; focus (intro w hSw; (try dsimp only at hSw); go_simp; (try with_reducible rfl); done)) | refine tn (i := 5) hHeld ?_
            try simp only [Act.put, List.setIfInBounds_toArray, List.set_cons_zero, List.set_cons_succ]
            first | (refine tw (i := 6) (v := ?_) ?_ hHeld ?_; rotate_left; focus (intro w hSw; (try dsimp only at hSw); go_simp; (try with_reducible rfl); done)) | refine tn (i := 6) hHeld ?_
            try simp only [Act.put, List.setIfInBounds_toArray, List.set_cons_zero, List.set_cons_succ]
            first | (refine tw (i := 7) (v := ?_) ?_ hHeld ?_; rotate_left; focus (intro w hSw; (try dsimp only at hSw); go_simp; (try with_reducible rfl); done)) | refine tn (i := 7) hHeld ?_
            try simp only [Act.put, List.setIfInBounds_toArray, List.set_cons_zero, List.set_cons_succ]
            first | (refine tw (i := 8) (v := ?_) ?_ hHeld ?_; rotate_left; focus (intro w hSw; (try dsimp only at hSw); go_simp; (try with_reducible rfl); done)) | refine tn (i := 8) hHeld ?_
            try simp only [Act.put, List.setIfInBounds_toArray, List.set_cons_zero, List.set_cons_succ]
            first | (refine tw (i := 9) (v := ?_) ?_ hHeld ?_; rotate_left; focus (intro w hSw; (try dsimp only at hSw); go_simp; (try with_reducible rfl); done)) | refine tn (i := 9) hHeld ?_
            try simp only [Act.put, List.setIfInBounds_toArray, List.set_cons_zero, List.set_cons_succ]
            first | (refine tw (i := 10) (v := ?_) ?_ hHeld ?_; rotate_left; focus (intro w hSw; (try dsimp only at hSw); go_simp; (try with_reducible rfl); done)) | refine tn (i := 10) hHeld ?_
            try simp only [Act.put, List.setIfInBounds_toArray, List.set_cons_zero, List.set_cons_succ]
            first | (refine tw (i := 11) (v := ?_) ?_ hHeld ?_; rotate_left; focus (intro w hSw; (try dsimp only at hSw); go_simp; (try with_reducible rfl); done)) | refine tn (i := 11) hHeld ?_
            try simp only [Act.put, List.setIfInBounds_toArray, List.set_cons_zero, List.set_cons_succ]
            first | (refine tw (i := 12) (v := ?_) ?_ hHeld ?_; rotate_left; focus (intro w hSw; (try dsimp only at hSw); go_simp; (try with_reducible rfl); done)) | refine tn (i := 12) hHeld ?_
            try simp only [Act.put, List.setIfInBounds_toArray, List.set_cons_zero, List.set_cons_succ]
            first | (refine tw (i := 13) (v := ?_) ?_ hHeld ?_; rotate_left; focus (intro w hSw; (try dsimp only at hSw); go_simp; (try with_reducible rfl); done)) | refine tn (i := 13) hHeld ?_
            try simp only [Act.put, List.setIfInBounds_toArray, List.set_cons_zero, List.set_cons_succ]
            first | (refine tw (i := 14) (v := ?_) ?_ hHeld ?_; rotate_left; focus (intro w hSw; (try dsimp only at hSw); go_simp; (try with_reducible rfl); done)) | refine tn (i := 14) hHeld ?_
            try simp only [Act.put, List.setIfInBounds_toArray, List.set_cons_zero, List.set_cons_succ]
            first | (refine tw (i := 15) (v := ?_) ?_ hHeld ?_; rotate_left; focus (intro w hSw; (try dsimp only at hSw); go_simp; (try with_reducible rfl); done)) | refine tn (i := 15) hHeld ?_
            try simp only [Act.put, List.setIfInBounds_toArray, List.set_cons_zero, List.set_cons_succ]
            first | (refine tw (i := 16) (v := ?_) ?_ hHeld ?_; rotate_left; focus (intro w hSw; (try dsimp only at hSw); go_simp; (try with_reducible rfl); done)) | refine tn (i := 16) hHeld ?_
            try simp only [Act.put, List.setIfInBounds_toArray, List.set_cons_zero, List.set_cons_succ]
            first | (refine tw (i := 17) (v := ?_) ?_ hHeld ?_; rotate_left; focus (intro w hSw; (try dsimp only at hSw); go_simp; (try with_reducible rfl); done)) | refine tn (i := 17) hHeld ?_
            try simp only [Act.put, List.setIfInBounds_toArray, List.set_cons_zero, List.set_cons_succ]
            first | (refine tw (i := 18) (v := ?_) ?_ hHeld ?_; rotate_left; focus (intro w hSw; (try dsimp only at hSw); go_simp; (try with_reducible rfl); done)) | refine tn (i := 18) hHeld ?_
            try simp only [Act.put, List.setIfInBounds_toArray, List.set_cons_zero, List.set_cons_succ]
            first | (refine tw (i := 19) (v := ?_) ?_ hHeld ?_; rotate_left; focus (intro w hSw; (try dsimp only at hSw); go_simp; (try with_reducible rfl); done)) | refine tn (i := 19) hHeld ?_
            try simp only [Act.put, List.setIfInBounds_toArray, List.set_cons_zero, List.set_cons_succ]
            first | (refine tw (i := 20) (v := ?_) ?_ hHeld ?_; rotate_left; focus (intro w hSw; (try dsimp only at hSw); go_simp; (try with_reducible rfl); done)) | refine tn (i := 20) hHeld ?_
            try simp only [Act.put, List.setIfInBounds_toArray, List.set_cons_zero, List.set_cons_succ]
            first | (refine tw (i := 21) (v := ?_) ?_ hHeld ?_; rotate_left; focus (intro w hSw; (try dsimp only at hSw); go_simp; (try with_reducible rfl); done)) | refine tn (i := 21) hHeld ?_
            try simp only [Act.put, List.setIfInBounds_toArray, List.set_cons_zero, List.set_cons_succ]
            refine call_next (i := 22) (by kernel_rfl) (by rfl) ?_
            intro o ho K hK
            simp only [List.getElem?_toArray, List.getElem?_cons_succ, List.getElem?_cons_zero, Option.some.injEq] at ho
            subst ho
            first | (fail; refine hK.out _ _ ?_ (fun hHeld => ?_)) | (go_simp; first | (with_reducible refine hK.out _ _ ?_ (fun hHeld => ?_)) | (fail; refine hK.out _ _ ?_ (fun hHeld => ?_)))
            · first | (with_reducible exact True.intro) | ((try simp only [World.cell?_drew] at *); repeat' (first | (with_reducible assumption) | (with_reducible refine And.intro ?_ ?_) | (refine cell_set_ne ?_ (by first | (simp; done) | (simp; omega))) | (refine bkeep (bdraws0 _ _) ?_; with_reducible assumption)))
            clear hK K
            try simp only [Act.put, List.setIfInBounds_toArray, List.set_cons_zero, List.set_cons_succ]
            refine wpAnyH_done (by kernel_rfl) ?_ _
            go_wp2
            exact ⟨⟨k + 1, by omega, by go_num, m1.out.keep (Below.refl _ _).drew, m2.out.drew⟩, by simp [intOf]; omega⟩
          · have d2 : decide ((b.size : Int) ≤ (k : Int)) = false := decide_eq_false (by omega)
            have hia : k < a.size := by omega
            have hib : k < b.size := by omega
            have ga := hga.out k hia
            have gb := hgb.out k hib
            have hp : (!decide (gd a k = gd b k)) = pS a b k := by unfold pS; rw [show decide (min a.size b.size ≤ k) = false from decide_eq_false (by omega), Bool.false_or]
            have hbne : ((gd a k : Int) != (gd b k : Int)) = !decide (gd a k = gd b k) := by
              by_cases e : gd a k = gd b k
              · rw [e]; simp
              · rw [decide_eq_false e, bne_iff_ne.2 (by omega)]; rfl
            have i1 : (k : Int) < (a.size : Int) := by omega
            have i2 : (k : Int) < (b.size : Int) := by omega
            obtain ⟨m1, m2⟩ := hnx.out _ hp
            have m1 := Lib.hid m1
            have m2 := Lib.hid m2
            clear hp
            go_wp2_with fail
            go_region
            go_wp2
            exact ⟨⟨k + 1, by omega, by go_num, m1.out.keep (Below.refl _ _).drew, m2.out.drew⟩, by simp [intOf]; omega⟩
      · have hd : decide ((k : Int) < ((b.size : Nat) : Int)) = false := decide_eq_false (by omega)
        have hkn : k = b.size := by omega
        have hr := rruns_any (some ⟨w.heap.size, 0, none⟩) (b.size) (b.size) (pS a b) wr (by omega) (Nat.le_refl _) (fun i hi => ⟨w.heap.size, 0, rfl, fun j hj => by rw [Nat.zero_add, hM.out.c j hj, hkn, decide_eq_true hj, Bool.true_and]⟩)
        have hr := Lib.hid hr
        have hsz := hB.out.size
        go_wp2_with (go_at_call 23; (with_reducible refine hr.out.mono ?_); rintro e w9 ⟨⟨v, rfl, hv⟩, hb9⟩)
        go_ret
        exact ⟨⟨v, wr.heap.size, rfl, hsz, hv⟩, bt hB.out hb9⟩
  · rw [Nat.max_eq_left (by omega)]
    have hmk := mk_full (P := Try.prog) 45 4 (.bool false) 1 Try.underlying45 (by kernel_rfl) rfl (a.size) (a.size : Nat) rfl (by omega) (by omega)
    have h0 : MK (w.alloc (.cells (madeCells #[.bool false] (a.size)) 4)) w.heap.size (a.size) 0 (pS a b) := ⟨fun j hj => by rw [decide_eq_false (by omega), Bool.false_and]; exact made_cell w 4 _ _ j hj, fun j hj => made_free w 4 _ _ j⟩
    have hB0 := alb' w (.cells (madeCells #[.bool false] (a.size)) 4)
    have hga := fun i (h : i < a.size) => gd_eq h
    have hgb := fun i (h : i < b.size) => gd_eq h
    have hga := Lib.hid hga
    have hgb := Lib.hid hgb
    go_enter Try.func11, Try.ntmps11
    go_wp2_with fail
    generalize w.alloc (.cells (madeCells #[.bool false] (a.size)) 4) = w1 at *
    go_loopw [6] (fun i wr => ∃ k : Nat, k ≤ a.size ∧ i = .int .i64 k ∧ Hid (MK wr w.heap.size (a.size) k (pS a b)) ∧ Hid (Below w.heap.size w wr)) (fun i _ => a.size - (intOf i).toNat)
    case atStart => exact ⟨0, Nat.zero_le _, rfl, h0, hB0⟩
    case round =>
      obtain ⟨k, hk, rfl, hM, hB⟩ := hrel
      clear h0 hB0
      by_cases hlt : k < a.size
      · have hd : decide ((k : Int) < ((a.size : Nat) : Int)) = true := decide_eq_true (by omega)
        have z1 := hM.out.c k hlt
        have z2 := hM.out.f k hlt
        have hst := hM.out.step hlt
        have hBs := hB.out.setCell (p := ⟨w.heap.size, k, none⟩) (Nat.le_refl _) (.bool (pS a b k))
        have hnx : ∀ t : Bool, t = pS a b k → MK (wr.setCell ⟨w.heap.size, k, none⟩ (.bool t)) w.heap.size (a.size) (k + 1) (pS a b) ∧ Below w.heap.size w (wr.setCell ⟨w.heap.size, k, none⟩ (.bool t)) := by
          rintro t rfl
          exact ⟨hst, hBs⟩
        have hnx := Lib.hid hnx
        clear hst hBs
        by_cases h1 : a.size ≤ k
        · have d1 : decide ((a.size : Int) ≤ (k : Int)) = true := decide_eq_true (by omega)
          have hp : true = pS a b k := by unfold pS; rw [decide_eq_true (by omega)]; rfl
          obtain ⟨m1, m2⟩ := hnx.out true hp
          have m1 := Lib.hid m1
          have m2 := Lib.hid m2
          clear hp
          go_wp2_with fail
          have MT : True := trivial
          refine wp_region_held_drew (S := (fun w' : World => True)) (by kernel_rfl) ?_ (fun hHeld => ?_)
          · exact trivial
          first | (refine tw (i := 0) (v := ?_) ?_ hHeld ?_; rotate_left; focus (intro w hSw; (try dsimp only at hSw); go_simp; (try with_reducible rfl); done)) | refine tn (i := 0) hHeld ?_
          try simp only [Act.put, List.setIfInBounds_toArray, List.set_cons_zero, List.set_cons_succ]
          first | (refine tw (i := 1) (v := ?_) ?_ hHeld ?_; rotate_left; focus (intro w hSw; (try dsimp only at hSw); go_simp; (try with_reducible rfl); done)) | refine tn (i := 1) hHeld ?_
          try simp only [Act.put, List.setIfInBounds_toArray, List.set_cons_zero, List.set_cons_succ]
          first | (refine tw (i := 2) (v := ?_) ?_ hHeld ?_; rotate_left; focus (intro w hSw; (try dsimp only at hSw); go_simp; (try with_reducible rfl); done)) | refine tn (i := 2) hHeld ?_
          try simp only [Act.put, List.setIfInBounds_toArray, List.set_cons_zero, List.set_cons_succ]
          first | (refine tw (i := 3) (v := ?_) ?_ hHeld ?_; rotate_left; focus (intro w hSw; (try dsimp only at hSw); go_simp; (try with_reducible rfl); done)) | refine tn (i := 3) hHeld ?_
          try simp only [Act.put, List.setIfInBounds_toArray, List.set_cons_zero, List.set_cons_succ]
          first | (refine tw (i := 4) (v := ?_) ?_ hHeld ?_; rotate_left; focus (intro w hSw; (try dsimp only at hSw); go_simp; (try with_reducible rfl); done)) | refine tn (i := 4) hHeld ?_
          try simp only [Act.put, List.setIfInBounds_toArray, List.set_cons_zero, List.set_cons_succ]
          first | (refine tw (i := 5) (v := ?_) ?_ hHeld ?_; rotate_left; focus (intro w hSw; (try dsimp only at hSw); go_simp; (try with_reducible rfl); done)) | refine tn (i := 5) hHeld ?_
          try simp only [Act.put, List.setIfInBounds_toArray, List.set_cons_zero, List.set_cons_succ]
          first | (refine tw (i := 6) (v := ?_) ?_ hHeld ?_; rotate_left; focus (intro w hSw; (try dsimp only at hSw); go_simp; (try with_reducible rfl); done)) | refine tn (i := 6) hHeld ?_
          try simp only [Act.put, List.setIfInBounds_toArray, List.set_cons_zero, List.set_cons_succ]
          first | (refine tw (i := 7) (v := ?_) ?_ hHeld ?_; rotate_left; focus (intro w hSw; (try dsimp only at hSw); go_simp; (try with_reducible rfl); done)) | refine tn (i := 7) hHeld ?_
          try simp only [Act.put, List.setIfInBounds_toArray, List.set_cons_zero, List.set_cons_succ]
          first | (refine tw (i := 8) (v := ?_) ?_ hHeld ?_; rotate_left; focus (intro w hSw; (try dsimp only at hSw); go_simp; (try with_reducible rfl); done)) | refine tn (i := 8) hHeld ?_
          try simp only [Act.put, List.setIfInBounds_toArray, List.set_cons_zero, List.set_cons_succ]
          first | (refine tw (i := 9) (v := ?_) ?_ hHeld ?_; rotate_left; focus (intro w hSw; (try dsimp only at hSw); go_simp; (try with_reducible rfl); done)) | refine tn (i := 9) hHeld ?_
          try simp only [Act.put, List.setIfInBounds_toArray, List.set_cons_zero, List.set_cons_succ]
          first | (refine tw (i := 10) (v := ?_) ?_ hHeld ?_; rotate_left; focus (intro w hSw; (try dsimp only at hSw); go_simp; (try with_reducible rfl); done)) | refine tn (i := 10) hHeld ?_
          try simp only [Act.put, List.setIfInBounds_toArray, List.set_cons_zero, List.set_cons_succ]
          first | (refine tw (i := 11) (v := ?_) ?_ hHeld ?_; rotate_left; focus (intro w hSw; (try dsimp only at hSw); go_simp; (try with_reducible rfl); done)) | refine tn (i := 11) hHeld ?_
          try simp only [Act.put, List.setIfInBounds_toArray, List.set_cons_zero, List.set_cons_succ]
          first | (refine tw (i := 12) (v := ?_) ?_ hHeld ?_; rotate_left; focus (intro w hSw; (try dsimp only at hSw); go_simp; (try with_reducible rfl); done)) | refine tn (i := 12) hHeld ?_
          try simp only [Act.put, List.setIfInBounds_toArray, List.set_cons_zero, List.set_cons_succ]
          first | (refine tw (i := 13) (v := ?_) ?_ hHeld ?_; rotate_left; focus (intro w hSw; (try dsimp only at hSw); go_simp; (try with_reducible rfl); done)) | refine tn (i := 13) hHeld ?_
          try simp only [Act.put, List.setIfInBounds_toArray, List.set_cons_zero, List.set_cons_succ]
          first | (refine tw (i := 14) (v := ?_) ?_ hHeld ?_; rotate_left; focus (intro w hSw; (try dsimp only at hSw); go_simp; (try with_reducible rfl); done)) | refine tn (i := 14) hHeld ?_
          try simp only [Act.put, List.setIfInBounds_toArray, List.set_cons_zero, List.set_cons_succ]
          first | (refine tw (i := 15) (v := ?_) ?_ hHeld ?_; rotate_left; focus (intro w hSw; (try dsimp only at hSw); go_simp; (try with_reducible rfl); done)) | refine tn (i := 15) hHeld ?_
          try simp only [Act.put, List.setIfInBounds_toArray, List.set_cons_zero, List.set_cons_succ]
          first | (refine tw (i := 16) (v := ?_) ?_ hHeld ?_; rotate_left; focus (intro w hSw; (try dsimp only at hSw); go_simp; (try with_reducible rfl); done)) | refine tn (i := 16) hHeld ?_
          try simp only [Act.put, List.setIfInBounds_toArray, List.set_cons_zero, List.set_cons_succ]
          first | (refine tw (i := 17) (v := ?_) ?_ hHeld ?_; rotate_left; focus (intro w hSw; (try dsimp only at hSw); go_simp; (try with_reducible rfl); done)) | refine tn (i := 17) hHeld ?_
          try simp only [Act.put, List.setIfInBounds_toArray, List.set_cons_zero, List.set_cons_succ]
          first | (refine tw (i := 18) (v := ?_) ?_ hHeld ?_; rotate_left; focus (intro w hSw; (try dsimp only at hSw); go_simp; (try with_reducible rfl); done)) | refine tn (i := 18) hHeld ?_
          try simp only [Act.put, List.setIfInBounds_toArray, List.set_cons_zero, List.set_cons_succ]
          first | (refine tw (i := 19) (v := ?_) ?_ hHeld ?_; rotate_left; focus (intro w hSw; (try dsimp only at hSw); go_simp; (try with_reducible rfl); done)) | refine tn (i := 19) hHeld ?_
          try simp only [Act.put, List.setIfInBounds_toArray, List.set_cons_zero, List.set_cons_succ]
          first | (refine tw (i := 20) (v := ?_) ?_ hHeld ?_; rotate_left; focus (intro w hSw; (try dsimp only at hSw); go_simp; (try with_reducible rfl); done)) | refine tn (i := 20) hHeld ?_
          try simp only [Act.put, List.setIfInBounds_toArray, List.set_cons_zero, List.set_cons_succ]
          first | (refine tw (i := 21) (v := ?_) ?_ hHeld ?_; rotate_left; focus (intro w hSw; (try dsimp only at hSw); go_simp; (try with_reducible rfl); done)) | refine tn (i := 21) hHeld ?_
          try simp only [Act.put, List.setIfInBounds_toArray, List.set_cons_zero, List.set_cons_succ]
          refine call_next (i := 22) (by kernel_rfl) (by rfl) ?_
          intro o ho K hK
          simp only [List.getElem?_toArray, List.getElem?_cons_succ, List.getElem?_cons_zero, Option.some.injEq] at ho
          subst ho
          first | (fail; refine hK.out _ _ ?_ (fun hHeld => ?_)) | (go_simp; first | (with_reducible refine hK.out _ _ ?_ (fun hHeld => ?_)) | (fail; refine hK.out _ _ ?_ (fun hHeld => ?_)))
          · first | (with_reducible exact True.intro) | ((try simp only [World.cell?_drew] at *); repeat' (first | (with_reducible assumption) | (with_reducible refine And.intro ?_ ?_) | (refine cell_set_ne ?_ (by first | (simp; done) | (simp; omega))) | (refine bkeep (bdraws0 _ _) ?_; with_reducible assumption)))
          clear hK K
          try simp only [Act.put, List.setIfInBounds_toArray, List.set_cons_zero, List.set_cons_succ]
          refine wpAnyH_done (by kernel_rfl) ?_ _
          go_wp2
          exact ⟨⟨k + 1, by omega, by go_num, m1.out.keep (Below.refl _ _).drew, m2.out.drew⟩, by simp [intOf]; omega⟩
        · have d1 : decide ((a.size : Int) ≤ (k : Int)) = false := decide_eq_false (by omega)
          by_cases h2 : b.size ≤ k
          · have d2 : decide ((b.size : Int) ≤ (k : Int)) = true := decide_eq_true (by omega)
            have hp : true = pS a b k := by unfold pS; rw [decide_eq_true (by omega)]; rfl
            obtain ⟨m1, m2⟩ := hnx.out true hp
            have m1 := Lib.hid m1
            have m2 := Lib.hid m2
            clear hp
            go_wp2_with fail
            have MT : True := trivial
            refine wp_region_held_drew (S := (fun w' : World => True)) (by kernel_rfl) ?_ (fun hHeld => ?_)
            · exact trivial
            first | (refine tw (i := 0) (v := ?_) ?_ hHeld ?_; rotate_left; focus (intro w hSw; (try dsimp only at hSw); go_simp; (try with_reducible rfl); done)) | refine tn (i := 0) hHeld ?_
            try simp only [Act.put, List.setIfInBounds_toArray, List.set_cons_zero, List.set_cons_succ]
            first | (refine tw (i := 1) (v := ?_) ?_ hHeld ?_; rotate_left; focus (intro w hSw; (try dsimp only at hSw); go_simp; (try with_reducible rfl); done)) | refine tn (i := 1) hHeld ?_
            try simp only [Act.put, List.setIfInBounds_toArray, List.set_cons_zero, List.set_cons_succ]
            first | (refine tw (i := 2) (v := ?_) ?_ hHeld ?_; rotate_left; focus (intro w hSw; (try dsimp only at hSw); go_simp; (try with_reducible rfl); done)) | refine tn (i := 2) hHeld ?_
            try simp only [Act.put, List.setIfInBounds_toArray, List.set_cons_zero, List.set_cons_succ]
            first | (refine tw (i := 3) (v := ?_) ?_ hHeld ?_; rotate_left; focus (intro w hSw; (try dsimp only at hSw); go_simp; (try with_reducible rfl); done)) | refine tn (i := 3) hHeld ?_
            try simp only [Act.put, List.setIfInBounds_toArray, List.set_cons_zero, List.set_cons_succ]
            first | (refine tw (i := 4) (v := ?_) ?_ hHeld ?_; rotate_left; focus (intro w hSw; (try dsimp only at hSw); go_simp; (try with_reducible rfl); done)) | refine tn (i := 4) hHeld ?_
            try simp only [Act.put, List.setIfInBounds_toArray, List.set_cons_zero, List.set_cons_succ]
            first | (refine tw (i := 5) (v := ?_) ?_ hHeld ?_; rotate_left; focus (intro w hSw; (try dsimp only at hSw); go_simp; (try with_reducible rfl); done)) | refine tn (i := 5) hHeld ?_
            try simp only [Act.put, List.setIfInBounds_toArray, List.set_cons_zero, List.set_cons_succ]
            first | (refine tw (i := 6) (v := ?_) ?_ hHeld ?_; rotate_left; focus (intro w hSw; (try dsimp only at hSw); go_simp; (try with_reducible rfl); done)) | refine tn (i := 6) hHeld ?_
            try simp only [Act.put, List.setIfInBounds_toArray, List.set_cons_zero, List.set_cons_succ]
            first | (refine tw (i := 7) (v := ?_) ?_ hHeld ?_; rotate_left; focus (intro w hSw; (try dsimp only at hSw); go_simp; (try with_reducible rfl); done)) | refine tn (i := 7) hHeld ?_
            try simp only [Act.put, List.setIfInBounds_toArray, List.set_cons_zero, List.set_cons_succ]
            first | (refine tw (i := 8) (v := ?_) ?_ hHeld ?_; rotate_left; focus (intro w hSw; (try dsimp only at hSw); go_simp; (try with_reducible rfl); done)) | refine tn (i := 8) hHeld ?_
            try simp only [Act.put, List.setIfInBounds_toArray, List.set_cons_zero, List.set_cons_succ]
            first | (refine tw (i := 9) (v := ?_) ?_ hHeld ?_; rotate_left; focus (intro w hSw; (try dsimp only at hSw); go_simp; (try with_reducible rfl); done)) | refine tn (i := 9) hHeld ?_
            try simp only [Act.put, List.setIfInBounds_toArray, List.set_cons_zero, List.set_cons_succ]
            first | (refine tw (i := 10) (v := ?_) ?_ hHeld ?_; rotate_left; focus (intro w hSw; (try dsimp only at hSw); go_simp; (try with_reducible rfl); done)) | refine tn (i := 10) hHeld ?_
            try simp only [Act.put, List.setIfInBounds_toArray, List.set_cons_zero, List.set_cons_succ]
            first | (refine tw (i := 11) (v := ?_) ?_ hHeld ?_; rotate_left; focus (intro w hSw; (try dsimp only at hSw); go_simp; (try with_reducible rfl); done)) | refine tn (i := 11) hHeld ?_
            try simp only [Act.put, List.setIfInBounds_toArray, List.set_cons_zero, List.set_cons_succ]
            first | (refine tw (i := 12) (v := ?_) ?_ hHeld ?_; rotate_left; focus (intro w hSw; (try dsimp only at hSw); go_simp; (try with_reducible rfl); done)) | refine tn (i := 12) hHeld ?_
            try simp only [Act.put, List.setIfInBounds_toArray, List.set_cons_zero, List.set_cons_succ]
            first | (refine tw (i := 13) (v := ?_) ?_ hHeld ?_; rotate_left; focus (intro w hSw; (try dsimp only at hSw); go_simp; (try with_reducible rfl); done)) | refine tn (i := 13) hHeld ?_
            try simp only [Act.put, List.setIfInBounds_toArray, List.set_cons_zero, List.set_cons_succ]
            first | (refine tw (i := 14) (v := ?_) ?_ hHeld ?_; rotate_left; focus (intro w hSw; (try dsimp only at hSw); go_simp; (try with_reducible rfl); done)) | refine tn (i := 14) hHeld ?_
            try simp only [Act.put, List.setIfInBounds_toArray, List.set_cons_zero, List.set_cons_succ]
            first | (refine tw (i := 15) (v := ?_) ?_ hHeld ?_; rotate_left; focus (intro w hSw; (try dsimp only at hSw); go_simp; (try with_reducible rfl); done)) | refine tn (i := 15) hHeld ?_
            try simp only [Act.put, List.setIfInBounds_toArray, List.set_cons_zero, List.set_cons_succ]
            first | (refine tw (i := 16) (v := ?_) ?_ hHeld ?_; rotate_left; focus (intro w hSw; (try dsimp only at hSw); go_simp; (try with_reducible rfl); done)) | refine tn (i := 16) hHeld ?_
            try simp only [Act.put, List.setIfInBounds_toArray, List.set_cons_zero, List.set_cons_succ]
            first | (refine tw (i := 17) (v := ?_) ?_ hHeld ?_; rotate_left; focus (intro w hSw; (try dsimp only at hSw); go_simp; (try with_reducible rfl); done)) | refine tn (i := 17) hHeld ?_
            try simp only [Act.put, List.setIfInBounds_toArray, List.set_cons_zero, List.set_cons_succ]
            first | (refine tw (i := 18) (v := ?_) ?_ hHeld ?_; rotate_left; focus (intro w hSw; (try dsimp only at hSw); go_simp; (try with_reducible rfl); done)) | refine tn (i := 18) hHeld ?_
            try simp only [Act.put, List.setIfInBounds_toArray, List.set_cons_zero, List.set_cons_succ]
            first | (refine tw (i := 19) (v := ?_) ?_ hHeld ?_; rotate_left; focus (intro w hSw; (try dsimp only at hSw); go_simp; (try with_reducible rfl); done)) | refine tn (i := 19) hHeld ?_
            try simp only [Act.put, List.setIfInBounds_toArray, List.set_cons_zero, List.set_cons_succ]
            first | (refine tw (i := 20) (v := ?_) ?_ hHeld ?_; rotate_left; focus (intro w hSw; (try dsimp only at hSw); go_simp; (try with_reducible rfl); done)) | refine tn (i := 20) hHeld ?_
            try simp only [Act.put, List.setIfInBounds_toArray, List.set_cons_zero, List.set_cons_succ]
            first | (refine tw (i := 21) (v := ?_) ?_ hHeld ?_; rotate_left; focus (intro w hSw; (try dsimp only at hSw); go_simp; (try with_reducible rfl); done)) | refine tn (i := 21) hHeld ?_
            try simp only [Act.put, List.setIfInBounds_toArray, List.set_cons_zero, List.set_cons_succ]
            refine call_next (i := 22) (by kernel_rfl) (by rfl) ?_
            intro o ho K hK
            simp only [List.getElem?_toArray, List.getElem?_cons_succ, List.getElem?_cons_zero, Option.some.injEq] at ho
            subst ho
            first | (fail; refine hK.out _ _ ?_ (fun hHeld => ?_)) | (go_simp; first | (with_reducible refine hK.out _ _ ?_ (fun hHeld => ?_)) | (fail; refine hK.out _ _ ?_ (fun hHeld => ?_)))
            · first | (with_reducible exact True.intro) | ((try simp only [World.cell?_drew] at *); repeat' (first | (with_reducible assumption) | (with_reducible refine And.intro ?_ ?_) | (refine cell_set_ne ?_ (by first | (simp; done) | (simp; omega))) | (refine bkeep (bdraws0 _ _) ?_; with_reducible assumption)))
            clear hK K
            try simp only [Act.put, List.setIfInBounds_toArray, List.set_cons_zero, List.set_cons_succ]
            refine wpAnyH_done (by kernel_rfl) ?_ _
            go_wp2
            exact ⟨⟨k + 1, by omega, by go_num, m1.out.keep (Below.refl _ _).drew, m2.out.drew⟩, by simp [intOf]; omega⟩
          · have d2 : decide ((b.size : Int) ≤ (k : Int)) = false := decide_eq_false (by omega)
            have hia : k < a.size := by omega
            have hib : k < b.size := by omega
            have ga := hga.out k hia
            have gb := hgb.out k hib
            have hp : (!decide (gd a k = gd b k)) = pS a b k := by unfold pS; rw [show decide (min a.size b.size ≤ k) = false from decide_eq_false (by omega), Bool.false_or]
            have hbne : ((gd a k : Int) != (gd b k : Int)) = !decide (gd a k = gd b k) := by
              by_cases e : gd a k = gd b k
              · rw [e]; simp
              · rw [decide_eq_false e, bne_iff_ne.2 (by omega)]; rfl
            have i1 : (k : Int) < (a.size : Int) := by omega
            have i2 : (k : Int) < (b.size : Int) := by omega
            obtain ⟨m1, m2⟩ := hnx.out _ hp
            have m1 := Lib.hid m1
            have m2 := Lib.hid m2
            clear hp
            go_wp2_with fail
            go_region
            go_wp2
            exact ⟨⟨k + 1, by omega, by go_num, m1.out.keep (Below.refl _ _).drew, m2.out.drew⟩, by simp [intOf]; omega⟩
      · have hd : decide ((k : Int) < ((a.size : Nat) : Int)) = false := decide_eq_false (by omega)
        have hkn : k = a.size := by omega
        have hr := rruns_any (some ⟨w.heap.size, 0, none⟩) (a.size) (a.size) (pS a b) wr (by omega) (Nat.le_refl _) (fun i hi => ⟨w.heap.size, 0, rfl, fun j hj => by rw [Nat.zero_add, hM.out.c j hj, hkn, decide_eq_true hj, Bool.true_and]⟩)
        have hr := Lib.hid hr
        have hsz := hB.out.size
        go_wp2_with (go_at_call 23; (with_reducible refine hr.out.mono ?_); rintro e w9 ⟨⟨v, rfl, hv⟩, hb9⟩)
        go_ret
        exact ⟨⟨v, wr.heap.size, rfl, hsz, hv⟩, bt hB.out hb9⟩
end Go.Proofs.Ytlmmmibnnbceeaa
