/-
  The statements of chapter 5: walks.
-/
import Derived.Test.YtbikkiinheemfaaVector2
import Derived.Test.YtbikkiinheemfaaDraw
namespace Go.Proofs.Ytbikkiinheemfaa
open Go.RowKit
set_option linter.unusedVariables false
set_option linter.unusedSimpArgs false

theorem covers_iff {a b c d : Int} : coversB a b c d = true ↔ c ≤ a ∧ d ≤ b := decide_eq_true_iff
def Cells6 (B : Nat) (a b c d e f : Int) (W : World) : Prop :=
  (W.cell? ⟨B, 0, none⟩ = some (.int .i64 a) ∧ W.cell? ⟨B, 1, none⟩ = some (.int .i64 b)) ∧
  (W.cell? ⟨B + 1, 0, none⟩ = some (.int .i64 c) ∧ W.cell? ⟨B + 1, 1, none⟩ = some (.int .i64 d)) ∧
  (W.cell? ⟨B + 2, 0, none⟩ = some (.int .i64 e) ∧ W.cell? ⟨B + 2, 1, none⟩ = some (.int .i64 f))
theorem keep6 {X Y : World} (hb : Below X.heap.size X Y) {B : Nat} {a b c d e f : Int} (h : Cells6 B a b c d e f X) : Cells6 B a b c d e f Y := ⟨keep2 hb h.1, keep2 hb h.2.1, keep2 hb h.2.2⟩
def W6 (w : World) (a b c d e f : Int) : World := ((w.alloc (.cells #[.int .i64 a, .int .i64 b] 23)).alloc (.cells #[.int .i64 c, .int .i64 d] 23)).alloc (.cells #[.int .i64 e, .int .i64 f] 23)
theorem held6 {w : World} {a b c d e f : Int} : Cells6 w.heap.size a b c d e f (W6 w a b c d e f) ∧ Below w.heap.size w (W6 w a b c d e f) := by
  refine ⟨⟨⟨?_, ?_⟩, ⟨?_, ?_⟩, ⟨?_, ?_⟩⟩, (((Below.refl _ _).alloc (Nat.le_refl _) _).alloc (by simp) _).alloc (by simp; omega) _⟩ <;> simp [W6, go_sem]

theorem veq (W : World) (a b c d : Int) : (binOp .eql 23 (VV a b) (VV c d)).run Try.prog W = .ok (.bool (a == c && b == d)) W := by
  by_cases h1 : a = c
  · by_cases h2 : b = d
    · simp [go_sem, h1, h2]
    · have hb2 : (b == d) = false := by simpa using h2
      simp [go_sem, h1, h2, hb2]
  · have hb1 : (a == c) = false := by simpa using h1
    simp [go_sem, h1, hb1]
theorem vne (W : World) (a b c d : Int) : (binOp .neq 23 (VV a b) (VV c d)).run Try.prog W = .ok (.bool (!(a == c && b == d))) W := by
  by_cases h1 : a = c
  · by_cases h2 : b = d
    · simp [go_sem, h1, h2]
    · have hb2 : (b == d) = false := by simpa using h2
      simp [go_sem, h1, h2, hb2]
  · have hb1 : (a == c) = false := by simpa using h1
    simp [go_sem, h1, hb1]
theorem cov_of {a b c d : Int} {r : Bool} (h : coversB a b c d = r) (w : World) : Calls Try.prog 8 #[VV a b, VV c d] w fun e w' => e = .returned (.bool r) ∧ Below w.heap.size w w' := h ▸ covers_any a b c d w
theorem veq_of {a b c d : Int} {r : Bool} (h : (a == c && b == d) = r) (W : World) : (binOp .eql 23 (VV a b) (VV c d)).run Try.prog W = .ok (.bool r) W := h ▸ veq W a b c d
set_option maxHeartbeats 12800000 in
theorem walk_VectorOrder (a0 a1 : Int) (u0 : (Lit.int .i64 a0).wf = true) (u1 : (Lit.int .i64 a1).wf = true) (b0 b1 : Int) (v0 : (Lit.int .i64 b0).wf = true) (v1 : (Lit.int .i64 b1).wf = true) (d0 d1 : Int) (x0 : (Lit.int .i64 d0).wf = true) (x1 : (Lit.int .i64 d1).wf = true) {w : World} :
    Calls Try.prog 3 #[VV a0 a1, VV b0 b1, VV d0 d1] w fun e w' => e = .returned (.bool true) ∧ Below w.heap.size w w' := by
  clear u0 u1 v0 v1 x0 x1
  obtain ⟨C, HB⟩ := held6 (w := w) (a := a0) (b := a1) (c := b0) (d := b1) (e := d0) (f := d1)
  have haa : coversB a0 a1 a0 a1 = true := covers_iff.2 ⟨Int.le_refl _, Int.le_refl _⟩
  cases hab : coversB a0 a1 b0 b1
  · have hne : (a0 == b0 && a1 == b1) = false := by
      cases h : (a0 == b0 && a1 == b1)
      · rfl
      · exfalso
        rw [Bool.and_eq_true, beq_iff_eq, beq_iff_eq] at h
        obtain ⟨rfl, rfl⟩ := h
        simp_all
    have hveq := fun W => veq_of hne W
    clear hne
    go_enter Try.func3, Try.ntmps3
    go_wp2_with fail
    rw [show ((w.alloc (.cells #[.int .i64 a0, .int .i64 a1] 23)).alloc (.cells #[.int .i64 b0, .int .i64 b1] 23)).alloc (.cells #[.int .i64 d0, .int .i64 d1] 23) = W6 w a0 a1 b0 b1 d0 d1 from rfl]
    generalize W6 w a0 a1 b0 b1 d0 d1 = W at *
    obtain ⟨⟨c1, c2⟩, ⟨c3, c4⟩, c5, c6⟩ := C
    go_wp2_with (first | (go_at_call 7; (with_reducible refine (works_any _).mono ?_); rintro e w5 ⟨rfl, hb5⟩; replace c1 := bkeep hb5 c1; replace c2 := bkeep hb5 c2; replace c3 := bkeep hb5 c3; replace c4 := bkeep hb5 c4; replace c5 := bkeep hb5 c5; replace c6 := bkeep hb5 c6; replace HB := bt HB hb5; clear hb5) | (go_at_call 8; first | ((with_reducible refine (cov_of hab _).mono ?_); rintro e w5 ⟨rfl, hb5⟩; replace c1 := bkeep hb5 c1; replace c2 := bkeep hb5 c2; replace c3 := bkeep hb5 c3; replace c4 := bkeep hb5 c4; replace c5 := bkeep hb5 c5; replace c6 := bkeep hb5 c6; replace HB := bt HB hb5; clear hb5) | ((with_reducible refine (cov_of haa _).mono ?_); rintro e w5 ⟨rfl, hb5⟩; replace c1 := bkeep hb5 c1; replace c2 := bkeep hb5 c2; replace c3 := bkeep hb5 c3; replace c4 := bkeep hb5 c4; replace c5 := bkeep hb5 c5; replace c6 := bkeep hb5 c6; replace HB := bt HB hb5; clear hb5)))
    replace HB := HB.drew
    refine wp_region_held_drew (S := (fun w' => (w'.cell? ⟨w.heap.size, 0, none⟩ = some (.int .i64 a0) ∧ w'.cell? ⟨w.heap.size, 1, none⟩ = some (.int .i64 a1)) ∧ (w'.cell? ⟨w.heap.size + 1, 0, none⟩ = some (.int .i64 b0) ∧ w'.cell? ⟨w.heap.size + 1, 1, none⟩ = some (.int .i64 b1)) ∧ (w'.cell? ⟨w.heap.size + 2, 0, none⟩ = some (.int .i64 d0) ∧ w'.cell? ⟨w.heap.size + 2, 1, none⟩ = some (.int .i64 d1)))) (by kernel_rfl) ?_ (fun hHeld => ?_)
    · exact ⟨⟨c1, c2⟩, ⟨c3, c4⟩, c5, c6⟩
    first | (refine take_w (i := 0) (d := (some 23)) (v := ?_) (by rfl) (by kernel_rfl) (by kernel_rfl) (by kernel_rfl) (fun _ _ _ h => h) (by rfl) ?_ (by assumption) ?_; rotate_left; (intro o ho; simp only [List.getElem?_toArray, List.getElem?_cons_succ, List.getElem?_cons_zero, Option.some.injEq] at ho; subst ho; intro w hSw; (try dsimp only at hSw); go_simp); (try with_reducible rfl)) | (refine take_n (i := 0) (d := (some 23)) (by rfl) (by kernel_rfl) (by kernel_rfl) (by kernel_rfl) (fun _ _ _ h => h) (by rfl) (by assumption) ?_)
    try simp only [Act.put, List.setIfInBounds_toArray, List.set_cons_zero, List.set_cons_succ]
    first | (refine take_w (i := 1) (d := (some 24)) (v := ?_) (by rfl) (by kernel_rfl) (by kernel_rfl) (by kernel_rfl) (fun _ _ _ h => h) (by rfl) ?_ (by assumption) ?_; rotate_left; (intro o ho; simp only [List.getElem?_toArray, List.getElem?_cons_succ, List.getElem?_cons_zero, Option.some.injEq] at ho; subst ho; intro w hSw; (try dsimp only at hSw); go_simp); (try with_reducible rfl)) | (refine take_n (i := 1) (d := (some 24)) (by rfl) (by kernel_rfl) (by kernel_rfl) (by kernel_rfl) (fun _ _ _ h => h) (by rfl) (by assumption) ?_)
    try simp only [Act.put, List.setIfInBounds_toArray, List.set_cons_zero, List.set_cons_succ]
    first | (refine take_w (i := 8) (d := (some 31)) (v := ?_) (by rfl) (by kernel_rfl) (by kernel_rfl) (by kernel_rfl) (fun _ _ _ h => h) (by rfl) ?_ (by assumption) ?_; rotate_left; (intro o ho; simp only [List.getElem?_toArray, List.getElem?_cons_succ, List.getElem?_cons_zero, Option.some.injEq] at ho; subst ho; intro w hSw; (try dsimp only at hSw); go_simp); (try with_reducible rfl)) | (refine take_n (i := 8) (d := (some 31)) (by rfl) (by kernel_rfl) (by kernel_rfl) (by kernel_rfl) (fun _ _ _ h => h) (by rfl) (by assumption) ?_)
    try simp only [Act.put, List.setIfInBounds_toArray, List.set_cons_zero, List.set_cons_succ]
    first | (refine take_w (i := 9) (d := (some 32)) (v := ?_) (by rfl) (by kernel_rfl) (by kernel_rfl) (by kernel_rfl) (fun _ _ _ h => h) (by rfl) ?_ (by assumption) ?_; rotate_left; (intro o ho; simp only [List.getElem?_toArray, List.getElem?_cons_succ, List.getElem?_cons_zero, Option.some.injEq] at ho; subst ho; intro w hSw; (try dsimp only at hSw); go_simp); (try with_reducible rfl)) | (refine take_n (i := 9) (d := (some 32)) (by rfl) (by kernel_rfl) (by kernel_rfl) (by kernel_rfl) (fun _ _ _ h => h) (by rfl) (by assumption) ?_)
    try simp only [Act.put, List.setIfInBounds_toArray, List.set_cons_zero, List.set_cons_succ]
    first | (refine take_w (i := 10) (d := (some 33)) (v := ?_) (by rfl) (by kernel_rfl) (by kernel_rfl) (by kernel_rfl) (fun _ _ _ h => h) (by rfl) ?_ (by assumption) ?_; rotate_left; (intro o ho; simp only [List.getElem?_toArray, List.getElem?_cons_succ, List.getElem?_cons_zero, Option.some.injEq] at ho; subst ho; intro w hSw; (try dsimp only at hSw); go_simp); (try with_reducible rfl)) | (refine take_n (i := 10) (d := (some 33)) (by rfl) (by kernel_rfl) (by kernel_rfl) (by kernel_rfl) (fun _ _ _ h => h) (by rfl) (by assumption) ?_)
    try simp only [Act.put, List.setIfInBounds_toArray, List.set_cons_zero, List.set_cons_succ]
    refine call_next (i := 2) (by kernel_rfl) (by rfl) ?_
    intro o ho K hK
    simp only [List.getElem?_toArray, List.getElem?_cons_succ, List.getElem?_cons_zero, Option.some.injEq] at ho
    subst ho
    go_simp
    first | (with_reducible refine hK.out _ _ ?_ (fun hHeld => ?_)) | ((first | (go_at_call 7; (with_reducible refine (works_any _).mono ?_); rintro e w5 ⟨rfl, hb5⟩; replace c1 := bkeep hb5 c1; replace c2 := bkeep hb5 c2; replace c3 := bkeep hb5 c3; replace c4 := bkeep hb5 c4; replace c5 := bkeep hb5 c5; replace c6 := bkeep hb5 c6; replace HB := bt HB hb5; clear hb5) | (go_at_call 8; first | ((with_reducible refine (cov_of hab _).mono ?_); rintro e w5 ⟨rfl, hb5⟩; replace c1 := bkeep hb5 c1; replace c2 := bkeep hb5 c2; replace c3 := bkeep hb5 c3; replace c4 := bkeep hb5 c4; replace c5 := bkeep hb5 c5; replace c6 := bkeep hb5 c6; replace HB := bt HB hb5; clear hb5) | ((with_reducible refine (cov_of haa _).mono ?_); rintro e w5 ⟨rfl, hb5⟩; replace c1 := bkeep hb5 c1; replace c2 := bkeep hb5 c2; replace c3 := bkeep hb5 c3; replace c4 := bkeep hb5 c4; replace c5 := bkeep hb5 c5; replace c6 := bkeep hb5 c6; replace HB := bt HB hb5; clear hb5))); refine hK.out _ _ ?_ (fun hHeld => ?_))
    · exact ⟨⟨c1, c2⟩, ⟨c3, c4⟩, c5, c6⟩
    clear hK K
    try simp only [Act.put, List.setIfInBounds_toArray, List.set_cons_zero, List.set_cons_succ]
    first | (refine take_w (i := 3) (d := (some 26)) (v := ?_) (by rfl) (by kernel_rfl) (by kernel_rfl) (by kernel_rfl) (fun _ _ _ h => h) (by rfl) ?_ (by assumption) ?_; rotate_left; (intro o ho; simp only [List.getElem?_toArray, List.getElem?_cons_succ, List.getElem?_cons_zero, Option.some.injEq] at ho; subst ho; intro w hSw; (try dsimp only at hSw); go_simp); (try with_reducible rfl)) | (refine take_n (i := 3) (d := (some 26)) (by rfl) (by kernel_rfl) (by kernel_rfl) (by kernel_rfl) (fun _ _ _ h => h) (by rfl) (by assumption) ?_)
    try simp only [Act.put, List.setIfInBounds_toArray, List.set_cons_zero, List.set_cons_succ]
    first | (refine take_w (i := 4) (d := (some 27)) (v := ?_) (by rfl) (by kernel_rfl) (by kernel_rfl) (by kernel_rfl) (fun _ _ _ h => h) (by rfl) ?_ (by assumption) ?_; rotate_left; (intro o ho; simp only [List.getElem?_toArray, List.getElem?_cons_succ, List.getElem?_cons_zero, Option.some.injEq] at ho; subst ho; intro w hSw; (try dsimp only at hSw); go_simp); (try with_reducible rfl)) | (refine take_n (i := 4) (d := (some 27)) (by rfl) (by kernel_rfl) (by kernel_rfl) (by kernel_rfl) (fun _ _ _ h => h) (by rfl) (by assumption) ?_)
    try simp only [Act.put, List.setIfInBounds_toArray, List.set_cons_zero, List.set_cons_succ]
    first | (refine take_w (i := 5) (d := (some 28)) (v := ?_) (by rfl) (by kernel_rfl) (by kernel_rfl) (by kernel_rfl) (fun _ _ _ h => h) (by rfl) ?_ (by assumption) ?_; rotate_left; (intro o ho; simp only [List.getElem?_toArray, List.getElem?_cons_succ, List.getElem?_cons_zero, Option.some.injEq] at ho; subst ho; intro w hSw; (try dsimp only at hSw); go_simp); (try with_reducible rfl)) | (refine take_n (i := 5) (d := (some 28)) (by rfl) (by kernel_rfl) (by kernel_rfl) (by kernel_rfl) (fun _ _ _ h => h) (by rfl) (by assumption) ?_)
    try simp only [Act.put, List.setIfInBounds_toArray, List.set_cons_zero, List.set_cons_succ]
    refine call_next (i := 6) (by kernel_rfl) (by rfl) ?_
    intro o ho K hK
    simp only [List.getElem?_toArray, List.getElem?_cons_succ, List.getElem?_cons_zero, Option.some.injEq] at ho
    subst ho
    go_simp
    first | (with_reducible refine hK.out _ _ ?_ (fun hHeld => ?_)) | ((first | (go_at_call 7; (with_reducible refine (works_any _).mono ?_); rintro e w5 ⟨rfl, hb5⟩; replace c1 := bkeep hb5 c1; replace c2 := bkeep hb5 c2; replace c3 := bkeep hb5 c3; replace c4 := bkeep hb5 c4; replace c5 := bkeep hb5 c5; replace c6 := bkeep hb5 c6; replace HB := bt HB hb5; clear hb5) | (go_at_call 8; first | ((with_reducible refine (cov_of hab _).mono ?_); rintro e w5 ⟨rfl, hb5⟩; replace c1 := bkeep hb5 c1; replace c2 := bkeep hb5 c2; replace c3 := bkeep hb5 c3; replace c4 := bkeep hb5 c4; replace c5 := bkeep hb5 c5; replace c6 := bkeep hb5 c6; replace HB := bt HB hb5; clear hb5) | ((with_reducible refine (cov_of haa _).mono ?_); rintro e w5 ⟨rfl, hb5⟩; replace c1 := bkeep hb5 c1; replace c2 := bkeep hb5 c2; replace c3 := bkeep hb5 c3; replace c4 := bkeep hb5 c4; replace c5 := bkeep hb5 c5; replace c6 := bkeep hb5 c6; replace HB := bt HB hb5; clear hb5))); refine hK.out _ _ ?_ (fun hHeld => ?_))
    · exact ⟨⟨c1, c2⟩, ⟨c3, c4⟩, c5, c6⟩
    clear hK K
    try simp only [Act.put, List.setIfInBounds_toArray, List.set_cons_zero, List.set_cons_succ]
    first | (refine take_w (i := 7) (d := (some 30)) (v := ?_) (by rfl) (by kernel_rfl) (by kernel_rfl) (by kernel_rfl) (fun _ _ _ h => h) (by rfl) ?_ (by assumption) ?_; rotate_left; (intro o ho; simp only [List.getElem?_toArray, List.getElem?_cons_succ, List.getElem?_cons_zero, Option.some.injEq] at ho; subst ho; intro w hSw; (try dsimp only at hSw); go_simp); (try with_reducible rfl)) | (refine take_n (i := 7) (d := (some 30)) (by rfl) (by kernel_rfl) (by kernel_rfl) (by kernel_rfl) (fun _ _ _ h => h) (by rfl) (by assumption) ?_)
    try simp only [Act.put, List.setIfInBounds_toArray, List.set_cons_zero, List.set_cons_succ]
    first | (refine take_w (i := 11) (d := (some 34)) (v := ?_) (by rfl) (by kernel_rfl) (by kernel_rfl) (by kernel_rfl) (fun _ _ _ h => h) (by rfl) ?_ (by assumption) ?_; rotate_left; (intro o ho; simp only [List.getElem?_toArray, List.getElem?_cons_succ, List.getElem?_cons_zero, Option.some.injEq] at ho; subst ho; intro w hSw; (try dsimp only at hSw); go_simp); (try with_reducible rfl)) | (refine take_n (i := 11) (d := (some 34)) (by rfl) (by kernel_rfl) (by kernel_rfl) (by kernel_rfl) (fun _ _ _ h => h) (by rfl) (by assumption) ?_)
    try simp only [Act.put, List.setIfInBounds_toArray, List.set_cons_zero, List.set_cons_succ]
    first | (refine take_w (i := 12) (d := (some 35)) (v := ?_) (by rfl) (by kernel_rfl) (by kernel_rfl) (by kernel_rfl) (fun _ _ _ h => h) (by rfl) ?_ (by assumption) ?_; rotate_left; (intro o ho; simp only [List.getElem?_toArray, List.getElem?_cons_succ, List.getElem?_cons_zero, Option.some.injEq] at ho; subst ho; intro w hSw; (try dsimp only at hSw); go_simp); (try with_reducible rfl)) | (refine take_n (i := 12) (d := (some 35)) (by rfl) (by kernel_rfl) (by kernel_rfl) (by kernel_rfl) (fun _ _ _ h => h) (by rfl) (by assumption) ?_)
    try simp only [Act.put, List.setIfInBounds_toArray, List.set_cons_zero, List.set_cons_succ]
    first | (refine take_w (i := 13) (d := (some 36)) (v := ?_) (by rfl) (by kernel_rfl) (by kernel_rfl) (by kernel_rfl) (fun _ _ _ h => h) (by rfl) ?_ (by assumption) ?_; rotate_left; (intro o ho; simp only [List.getElem?_toArray, List.getElem?_cons_succ, List.getElem?_cons_zero, Option.some.injEq] at ho; subst ho; intro w hSw; (try dsimp only at hSw); go_simp); (try with_reducible rfl)) | (refine take_n (i := 13) (d := (some 36)) (by rfl) (by kernel_rfl) (by kernel_rfl) (by kernel_rfl) (fun _ _ _ h => h) (by rfl) (by assumption) ?_)
    try simp only [Act.put, List.setIfInBounds_toArray, List.set_cons_zero, List.set_cons_succ]
    first | (refine take_w (i := 14) (d := (some 37)) (v := ?_) (by rfl) (by kernel_rfl) (by kernel_rfl) (by kernel_rfl) (fun _ _ _ h => h) (by rfl) ?_ (by assumption) ?_; rotate_left; (intro o ho; simp only [List.getElem?_toArray, List.getElem?_cons_succ, List.getElem?_cons_zero, Option.some.injEq] at ho; subst ho; intro w hSw; (try dsimp only at hSw); go_simp); (try with_reducible rfl)) | (refine take_n (i := 14) (d := (some 37)) (by rfl) (by kernel_rfl) (by kernel_rfl) (by kernel_rfl) (fun _ _ _ h => h) (by rfl) (by assumption) ?_)
    try simp only [Act.put, List.setIfInBounds_toArray, List.set_cons_zero, List.set_cons_succ]
    refine call_next (i := 15) (by kernel_rfl) (by rfl) ?_
    intro o ho K hK
    simp only [List.getElem?_toArray, List.getElem?_cons_succ, List.getElem?_cons_zero, Option.some.injEq] at ho
    subst ho
    go_simp
    first | (with_reducible refine hK.out _ _ ?_ (fun hHeld => ?_)) | ((first | (go_at_call 7; (with_reducible refine (works_any _).mono ?_); rintro e w5 ⟨rfl, hb5⟩; replace c1 := bkeep hb5 c1; replace c2 := bkeep hb5 c2; replace c3 := bkeep hb5 c3; replace c4 := bkeep hb5 c4; replace c5 := bkeep hb5 c5; replace c6 := bkeep hb5 c6; replace HB := bt HB hb5; clear hb5) | (go_at_call 8; first | ((with_reducible refine (cov_of hab _).mono ?_); rintro e w5 ⟨rfl, hb5⟩; replace c1 := bkeep hb5 c1; replace c2 := bkeep hb5 c2; replace c3 := bkeep hb5 c3; replace c4 := bkeep hb5 c4; replace c5 := bkeep hb5 c5; replace c6 := bkeep hb5 c6; replace HB := bt HB hb5; clear hb5) | ((with_reducible refine (cov_of haa _).mono ?_); rintro e w5 ⟨rfl, hb5⟩; replace c1 := bkeep hb5 c1; replace c2 := bkeep hb5 c2; replace c3 := bkeep hb5 c3; replace c4 := bkeep hb5 c4; replace c5 := bkeep hb5 c5; replace c6 := bkeep hb5 c6; replace HB := bt HB hb5; clear hb5))); refine hK.out _ _ ?_ (fun hHeld => ?_))
    · exact ⟨⟨c1, c2⟩, ⟨c3, c4⟩, c5, c6⟩
    clear hK K
    try simp only [Act.put, List.setIfInBounds_toArray, List.set_cons_zero, List.set_cons_succ]
    first | (refine take_w (i := 16) (d := (some 39)) (v := ?_) (by rfl) (by kernel_rfl) (by kernel_rfl) (by kernel_rfl) (fun _ _ _ h => h) (by rfl) ?_ (by assumption) ?_; rotate_left; (intro o ho; simp only [List.getElem?_toArray, List.getElem?_cons_succ, List.getElem?_cons_zero, Option.some.injEq] at ho; subst ho; intro w hSw; (try dsimp only at hSw); go_simp); (try with_reducible rfl)) | (refine take_n (i := 16) (d := (some 39)) (by rfl) (by kernel_rfl) (by kernel_rfl) (by kernel_rfl) (fun _ _ _ h => h) (by rfl) (by assumption) ?_)
    try simp only [Act.put, List.setIfInBounds_toArray, List.set_cons_zero, List.set_cons_succ]
    first | (refine take_w (i := 17) (d := (some 6)) (v := ?_) (by rfl) (by kernel_rfl) (by kernel_rfl) (by kernel_rfl) (fun _ _ _ h => h) (by rfl) ?_ (by assumption) ?_; rotate_left; (intro o ho; simp only [List.getElem?_toArray, List.getElem?_cons_succ, List.getElem?_cons_zero, Option.some.injEq] at ho; subst ho; intro w hSw; (try dsimp only at hSw); go_simp); (try with_reducible rfl)) | (refine take_n (i := 17) (d := (some 6)) (by rfl) (by kernel_rfl) (by kernel_rfl) (by kernel_rfl) (fun _ _ _ h => h) (by rfl) (by assumption) ?_)
    try simp only [Act.put, List.setIfInBounds_toArray, List.set_cons_zero, List.set_cons_succ]
    refine wpAnyH_done (by kernel_rfl) ?_ _
    go_wp2
    go_ret
    exact ⟨rfl, HB⟩
  · cases hbd : coversB b0 b1 d0 d1
    · cases hba : coversB b0 b1 a0 a1
      · have hne : (a0 == b0 && a1 == b1) = false := by
          cases h : (a0 == b0 && a1 == b1)
          · rfl
          · exfalso
            rw [Bool.and_eq_true, beq_iff_eq, beq_iff_eq] at h
            obtain ⟨rfl, rfl⟩ := h
            simp_all
        have hveq := fun W => veq_of hne W
        clear hne
        go_enter Try.func3, Try.ntmps3
        go_wp2_with fail
        rw [show ((w.alloc (.cells #[.int .i64 a0, .int .i64 a1] 23)).alloc (.cells #[.int .i64 b0, .int .i64 b1] 23)).alloc (.cells #[.int .i64 d0, .int .i64 d1] 23) = W6 w a0 a1 b0 b1 d0 d1 from rfl]
        generalize W6 w a0 a1 b0 b1 d0 d1 = W at *
        obtain ⟨⟨c1, c2⟩, ⟨c3, c4⟩, c5, c6⟩ := C
        go_wp2_with (first | (go_at_call 7; (with_reducible refine (works_any _).mono ?_); rintro e w5 ⟨rfl, hb5⟩; replace c1 := bkeep hb5 c1; replace c2 := bkeep hb5 c2; replace c3 := bkeep hb5 c3; replace c4 := bkeep hb5 c4; replace c5 := bkeep hb5 c5; replace c6 := bkeep hb5 c6; replace HB := bt HB hb5; clear hb5) | (go_at_call 8; first | ((with_reducible refine (cov_of hab _).mono ?_); rintro e w5 ⟨rfl, hb5⟩; replace c1 := bkeep hb5 c1; replace c2 := bkeep hb5 c2; replace c3 := bkeep hb5 c3; replace c4 := bkeep hb5 c4; replace c5 := bkeep hb5 c5; replace c6 := bkeep hb5 c6; replace HB := bt HB hb5; clear hb5) | ((with_reducible refine (cov_of hbd _).mono ?_); rintro e w5 ⟨rfl, hb5⟩; replace c1 := bkeep hb5 c1; replace c2 := bkeep hb5 c2; replace c3 := bkeep hb5 c3; replace c4 := bkeep hb5 c4; replace c5 := bkeep hb5 c5; replace c6 := bkeep hb5 c6; replace HB := bt HB hb5; clear hb5) | ((with_reducible refine (cov_of hba _).mono ?_); rintro e w5 ⟨rfl, hb5⟩; replace c1 := bkeep hb5 c1; replace c2 := bkeep hb5 c2; replace c3 := bkeep hb5 c3; replace c4 := bkeep hb5 c4; replace c5 := bkeep hb5 c5; replace c6 := bkeep hb5 c6; replace HB := bt HB hb5; clear hb5) | ((with_reducible refine (cov_of haa _).mono ?_); rintro e w5 ⟨rfl, hb5⟩; replace c1 := bkeep hb5 c1; replace c2 := bkeep hb5 c2; replace c3 := bkeep hb5 c3; replace c4 := bkeep hb5 c4; replace c5 := bkeep hb5 c5; replace c6 := bkeep hb5 c6; replace HB := bt HB hb5; clear hb5)))
        replace HB := HB.drew
        go_region_held3 (fun w' => (w'.cell? ⟨w.heap.size, 0, none⟩ = some (.int .i64 a0) ∧ w'.cell? ⟨w.heap.size, 1, none⟩ = some (.int .i64 a1)) ∧ (w'.cell? ⟨w.heap.size + 1, 0, none⟩ = some (.int .i64 b0) ∧ w'.cell? ⟨w.heap.size + 1, 1, none⟩ = some (.int .i64 b1)) ∧ (w'.cell? ⟨w.heap.size + 2, 0, none⟩ = some (.int .i64 d0) ∧ w'.cell? ⟨w.heap.size + 2, 1, none⟩ = some (.int .i64 d1))) (first | exact ⟨⟨c1, c2⟩, ⟨c3, c4⟩, c5, c6⟩) (first | (go_at_call 7; (with_reducible refine (works_any _).mono ?_); rintro e w5 ⟨rfl, hb5⟩; replace c1 := bkeep hb5 c1; replace c2 := bkeep hb5 c2; replace c3 := bkeep hb5 c3; replace c4 := bkeep hb5 c4; replace c5 := bkeep hb5 c5; replace c6 := bkeep hb5 c6; replace HB := bt HB hb5; clear hb5) | (go_at_call 8; first | ((with_reducible refine (cov_of hab _).mono ?_); rintro e w5 ⟨rfl, hb5⟩; replace c1 := bkeep hb5 c1; replace c2 := bkeep hb5 c2; replace c3 := bkeep hb5 c3; replace c4 := bkeep hb5 c4; replace c5 := bkeep hb5 c5; replace c6 := bkeep hb5 c6; replace HB := bt HB hb5; clear hb5) | ((with_reducible refine (cov_of hbd _).mono ?_); rintro e w5 ⟨rfl, hb5⟩; replace c1 := bkeep hb5 c1; replace c2 := bkeep hb5 c2; replace c3 := bkeep hb5 c3; replace c4 := bkeep hb5 c4; replace c5 := bkeep hb5 c5; replace c6 := bkeep hb5 c6; replace HB := bt HB hb5; clear hb5) | ((with_reducible refine (cov_of hba _).mono ?_); rintro e w5 ⟨rfl, hb5⟩; replace c1 := bkeep hb5 c1; replace c2 := bkeep hb5 c2; replace c3 := bkeep hb5 c3; replace c4 := bkeep hb5 c4; replace c5 := bkeep hb5 c5; replace c6 := bkeep hb5 c6; replace HB := bt HB hb5; clear hb5) | ((with_reducible refine (cov_of haa _).mono ?_); rintro e w5 ⟨rfl, hb5⟩; replace c1 := bkeep hb5 c1; replace c2 := bkeep hb5 c2; replace c3 := bkeep hb5 c3; replace c4 := bkeep hb5 c4; replace c5 := bkeep hb5 c5; replace c6 := bkeep hb5 c6; replace HB := bt HB hb5; clear hb5)))
        go_wp2
        go_ret
        exact ⟨rfl, HB⟩
      · obtain ⟨rfl, rfl⟩ : a0 = b0 ∧ a1 = b1 := by
          have h1 := covers_iff.1 hab
          have h2 := covers_iff.1 hba
          omega
        clear hba hab
        have hveq := fun W => veq_of (a := a0) (b := a1) (c := a0) (d := a1) (r := true) (by simp) W
        go_enter Try.func3, Try.ntmps3
        go_wp2_with fail
        rw [show ((w.alloc (.cells #[.int .i64 a0, .int .i64 a1] 23)).alloc (.cells #[.int .i64 a0, .int .i64 a1] 23)).alloc (.cells #[.int .i64 d0, .int .i64 d1] 23) = W6 w a0 a1 a0 a1 d0 d1 from rfl]
        generalize W6 w a0 a1 a0 a1 d0 d1 = W at *
        obtain ⟨⟨c1, c2⟩, ⟨c3, c4⟩, c5, c6⟩ := C
        go_wp2_with (first | (go_at_call 7; (with_reducible refine (works_any _).mono ?_); rintro e w5 ⟨rfl, hb5⟩; replace c1 := bkeep hb5 c1; replace c2 := bkeep hb5 c2; replace c3 := bkeep hb5 c3; replace c4 := bkeep hb5 c4; replace c5 := bkeep hb5 c5; replace c6 := bkeep hb5 c6; replace HB := bt HB hb5; clear hb5) | (go_at_call 8; first | ((with_reducible refine (cov_of haa _).mono ?_); rintro e w5 ⟨rfl, hb5⟩; replace c1 := bkeep hb5 c1; replace c2 := bkeep hb5 c2; replace c3 := bkeep hb5 c3; replace c4 := bkeep hb5 c4; replace c5 := bkeep hb5 c5; replace c6 := bkeep hb5 c6; replace HB := bt HB hb5; clear hb5) | ((with_reducible refine (cov_of hbd _).mono ?_); rintro e w5 ⟨rfl, hb5⟩; replace c1 := bkeep hb5 c1; replace c2 := bkeep hb5 c2; replace c3 := bkeep hb5 c3; replace c4 := bkeep hb5 c4; replace c5 := bkeep hb5 c5; replace c6 := bkeep hb5 c6; replace HB := bt HB hb5; clear hb5)))
        replace HB := HB.drew
        go_region_held3 (fun w' => (w'.cell? ⟨w.heap.size, 0, none⟩ = some (.int .i64 a0) ∧ w'.cell? ⟨w.heap.size, 1, none⟩ = some (.int .i64 a1)) ∧ (w'.cell? ⟨w.heap.size + 1, 0, none⟩ = some (.int .i64 a0) ∧ w'.cell? ⟨w.heap.size + 1, 1, none⟩ = some (.int .i64 a1)) ∧ (w'.cell? ⟨w.heap.size + 2, 0, none⟩ = some (.int .i64 d0) ∧ w'.cell? ⟨w.heap.size + 2, 1, none⟩ = some (.int .i64 d1))) (first | exact ⟨⟨c1, c2⟩, ⟨c3, c4⟩, c5, c6⟩) (first | (go_at_call 7; (with_reducible refine (works_any _).mono ?_); rintro e w5 ⟨rfl, hb5⟩; replace c1 := bkeep hb5 c1; replace c2 := bkeep hb5 c2; replace c3 := bkeep hb5 c3; replace c4 := bkeep hb5 c4; replace c5 := bkeep hb5 c5; replace c6 := bkeep hb5 c6; replace HB := bt HB hb5; clear hb5) | (go_at_call 8; first | ((with_reducible refine (cov_of haa _).mono ?_); rintro e w5 ⟨rfl, hb5⟩; replace c1 := bkeep hb5 c1; replace c2 := bkeep hb5 c2; replace c3 := bkeep hb5 c3; replace c4 := bkeep hb5 c4; replace c5 := bkeep hb5 c5; replace c6 := bkeep hb5 c6; replace HB := bt HB hb5; clear hb5) | ((with_reducible refine (cov_of hbd _).mono ?_); rintro e w5 ⟨rfl, hb5⟩; replace c1 := bkeep hb5 c1; replace c2 := bkeep hb5 c2; replace c3 := bkeep hb5 c3; replace c4 := bkeep hb5 c4; replace c5 := bkeep hb5 c5; replace c6 := bkeep hb5 c6; replace HB := bt HB hb5; clear hb5)))
        go_wp2
        go_ret
        exact ⟨rfl, HB⟩
    · have had : coversB a0 a1 d0 d1 = true := by
        have h1 := covers_iff.1 hab
        have h2 := covers_iff.1 hbd
        exact covers_iff.2 (by omega)
      cases hba : coversB b0 b1 a0 a1
      · have hne : (a0 == b0 && a1 == b1) = false := by
          cases h : (a0 == b0 && a1 == b1)
          · rfl
          · exfalso
            rw [Bool.and_eq_true, beq_iff_eq, beq_iff_eq] at h
            obtain ⟨rfl, rfl⟩ := h
            simp_all
        have hveq := fun W => veq_of hne W
        clear hne
        go_enter Try.func3, Try.ntmps3
        go_wp2_with fail
        rw [show ((w.alloc (.cells #[.int .i64 a0, .int .i64 a1] 23)).alloc (.cells #[.int .i64 b0, .int .i64 b1] 23)).alloc (.cells #[.int .i64 d0, .int .i64 d1] 23) = W6 w a0 a1 b0 b1 d0 d1 from rfl]
        generalize W6 w a0 a1 b0 b1 d0 d1 = W at *
        obtain ⟨⟨c1, c2⟩, ⟨c3, c4⟩, c5, c6⟩ := C
        go_wp2_with (first | (go_at_call 7; (with_reducible refine (works_any _).mono ?_); rintro e w5 ⟨rfl, hb5⟩; replace c1 := bkeep hb5 c1; replace c2 := bkeep hb5 c2; replace c3 := bkeep hb5 c3; replace c4 := bkeep hb5 c4; replace c5 := bkeep hb5 c5; replace c6 := bkeep hb5 c6; replace HB := bt HB hb5; clear hb5) | (go_at_call 8; first | ((with_reducible refine (cov_of hab _).mono ?_); rintro e w5 ⟨rfl, hb5⟩; replace c1 := bkeep hb5 c1; replace c2 := bkeep hb5 c2; replace c3 := bkeep hb5 c3; replace c4 := bkeep hb5 c4; replace c5 := bkeep hb5 c5; replace c6 := bkeep hb5 c6; replace HB := bt HB hb5; clear hb5) | ((with_reducible refine (cov_of hbd _).mono ?_); rintro e w5 ⟨rfl, hb5⟩; replace c1 := bkeep hb5 c1; replace c2 := bkeep hb5 c2; replace c3 := bkeep hb5 c3; replace c4 := bkeep hb5 c4; replace c5 := bkeep hb5 c5; replace c6 := bkeep hb5 c6; replace HB := bt HB hb5; clear hb5) | ((with_reducible refine (cov_of hba _).mono ?_); rintro e w5 ⟨rfl, hb5⟩; replace c1 := bkeep hb5 c1; replace c2 := bkeep hb5 c2; replace c3 := bkeep hb5 c3; replace c4 := bkeep hb5 c4; replace c5 := bkeep hb5 c5; replace c6 := bkeep hb5 c6; replace HB := bt HB hb5; clear hb5) | ((with_reducible refine (cov_of haa _).mono ?_); rintro e w5 ⟨rfl, hb5⟩; replace c1 := bkeep hb5 c1; replace c2 := bkeep hb5 c2; replace c3 := bkeep hb5 c3; replace c4 := bkeep hb5 c4; replace c5 := bkeep hb5 c5; replace c6 := bkeep hb5 c6; replace HB := bt HB hb5; clear hb5) | ((with_reducible refine (cov_of had _).mono ?_); rintro e w5 ⟨rfl, hb5⟩; replace c1 := bkeep hb5 c1; replace c2 := bkeep hb5 c2; replace c3 := bkeep hb5 c3; replace c4 := bkeep hb5 c4; replace c5 := bkeep hb5 c5; replace c6 := bkeep hb5 c6; replace HB := bt HB hb5; clear hb5)))
        replace HB := HB.drew
        go_region_held3 (fun w' => (w'.cell? ⟨w.heap.size, 0, none⟩ = some (.int .i64 a0) ∧ w'.cell? ⟨w.heap.size, 1, none⟩ = some (.int .i64 a1)) ∧ (w'.cell? ⟨w.heap.size + 1, 0, none⟩ = some (.int .i64 b0) ∧ w'.cell? ⟨w.heap.size + 1, 1, none⟩ = some (.int .i64 b1)) ∧ (w'.cell? ⟨w.heap.size + 2, 0, none⟩ = some (.int .i64 d0) ∧ w'.cell? ⟨w.heap.size + 2, 1, none⟩ = some (.int .i64 d1))) (first | exact ⟨⟨c1, c2⟩, ⟨c3, c4⟩, c5, c6⟩) (first | (go_at_call 7; (with_reducible refine (works_any _).mono ?_); rintro e w5 ⟨rfl, hb5⟩; replace c1 := bkeep hb5 c1; replace c2 := bkeep hb5 c2; replace c3 := bkeep hb5 c3; replace c4 := bkeep hb5 c4; replace c5 := bkeep hb5 c5; replace c6 := bkeep hb5 c6; replace HB := bt HB hb5; clear hb5) | (go_at_call 8; first | ((with_reducible refine (cov_of hab _).mono ?_); rintro e w5 ⟨rfl, hb5⟩; replace c1 := bkeep hb5 c1; replace c2 := bkeep hb5 c2; replace c3 := bkeep hb5 c3; replace c4 := bkeep hb5 c4; replace c5 := bkeep hb5 c5; replace c6 := bkeep hb5 c6; replace HB := bt HB hb5; clear hb5) | ((with_reducible refine (cov_of hbd _).mono ?_); rintro e w5 ⟨rfl, hb5⟩; replace c1 := bkeep hb5 c1; replace c2 := bkeep hb5 c2; replace c3 := bkeep hb5 c3; replace c4 := bkeep hb5 c4; replace c5 := bkeep hb5 c5; replace c6 := bkeep hb5 c6; replace HB := bt HB hb5; clear hb5) | ((with_reducible refine (cov_of hba _).mono ?_); rintro e w5 ⟨rfl, hb5⟩; replace c1 := bkeep hb5 c1; replace c2 := bkeep hb5 c2; replace c3 := bkeep hb5 c3; replace c4 := bkeep hb5 c4; replace c5 := bkeep hb5 c5; replace c6 := bkeep hb5 c6; replace HB := bt HB hb5; clear hb5) | ((with_reducible refine (cov_of haa _).mono ?_); rintro e w5 ⟨rfl, hb5⟩; replace c1 := bkeep hb5 c1; replace c2 := bkeep hb5 c2; replace c3 := bkeep hb5 c3; replace c4 := bkeep hb5 c4; replace c5 := bkeep hb5 c5; replace c6 := bkeep hb5 c6; replace HB := bt HB hb5; clear hb5) | ((with_reducible refine (cov_of had _).mono ?_); rintro e w5 ⟨rfl, hb5⟩; replace c1 := bkeep hb5 c1; replace c2 := bkeep hb5 c2; replace c3 := bkeep hb5 c3; replace c4 := bkeep hb5 c4; replace c5 := bkeep hb5 c5; replace c6 := bkeep hb5 c6; replace HB := bt HB hb5; clear hb5)))
        go_wp2
        go_ret
        exact ⟨rfl, HB⟩
      · obtain ⟨rfl, rfl⟩ : a0 = b0 ∧ a1 = b1 := by
          have h1 := covers_iff.1 hab
          have h2 := covers_iff.1 hba
          omega
        clear hba hab
        have hveq := fun W => veq_of (a := a0) (b := a1) (c := a0) (d := a1) (r := true) (by simp) W
        go_enter Try.func3, Try.ntmps3
        go_wp2_with fail
        rw [show ((w.alloc (.cells #[.int .i64 a0, .int .i64 a1] 23)).alloc (.cells #[.int .i64 a0, .int .i64 a1] 23)).alloc (.cells #[.int .i64 d0, .int .i64 d1] 23) = W6 w a0 a1 a0 a1 d0 d1 from rfl]
        generalize W6 w a0 a1 a0 a1 d0 d1 = W at *
        obtain ⟨⟨c1, c2⟩, ⟨c3, c4⟩, c5, c6⟩ := C
        go_wp2_with (first | (go_at_call 7; (with_reducible refine (works_any _).mono ?_); rintro e w5 ⟨rfl, hb5⟩; replace c1 := bkeep hb5 c1; replace c2 := bkeep hb5 c2; replace c3 := bkeep hb5 c3; replace c4 := bkeep hb5 c4; replace c5 := bkeep hb5 c5; replace c6 := bkeep hb5 c6; replace HB := bt HB hb5; clear hb5) | (go_at_call 8; first | ((with_reducible refine (cov_of haa _).mono ?_); rintro e w5 ⟨rfl, hb5⟩; replace c1 := bkeep hb5 c1; replace c2 := bkeep hb5 c2; replace c3 := bkeep hb5 c3; replace c4 := bkeep hb5 c4; replace c5 := bkeep hb5 c5; replace c6 := bkeep hb5 c6; replace HB := bt HB hb5; clear hb5) | ((with_reducible refine (cov_of hbd _).mono ?_); rintro e w5 ⟨rfl, hb5⟩; replace c1 := bkeep hb5 c1; replace c2 := bkeep hb5 c2; replace c3 := bkeep hb5 c3; replace c4 := bkeep hb5 c4; replace c5 := bkeep hb5 c5; replace c6 := bkeep hb5 c6; replace HB := bt HB hb5; clear hb5)))
        replace HB := HB.drew
        go_region_held3 (fun w' => (w'.cell? ⟨w.heap.size, 0, none⟩ = some (.int .i64 a0) ∧ w'.cell? ⟨w.heap.size, 1, none⟩ = some (.int .i64 a1)) ∧ (w'.cell? ⟨w.heap.size + 1, 0, none⟩ = some (.int .i64 a0) ∧ w'.cell? ⟨w.heap.size + 1, 1, none⟩ = some (.int .i64 a1)) ∧ (w'.cell? ⟨w.heap.size + 2, 0, none⟩ = some (.int .i64 d0) ∧ w'.cell? ⟨w.heap.size + 2, 1, none⟩ = some (.int .i64 d1))) (first | exact ⟨⟨c1, c2⟩, ⟨c3, c4⟩, c5, c6⟩) (first | (go_at_call 7; (with_reducible refine (works_any _).mono ?_); rintro e w5 ⟨rfl, hb5⟩; replace c1 := bkeep hb5 c1; replace c2 := bkeep hb5 c2; replace c3 := bkeep hb5 c3; replace c4 := bkeep hb5 c4; replace c5 := bkeep hb5 c5; replace c6 := bkeep hb5 c6; replace HB := bt HB hb5; clear hb5) | (go_at_call 8; first | ((with_reducible refine (cov_of haa _).mono ?_); rintro e w5 ⟨rfl, hb5⟩; replace c1 := bkeep hb5 c1; replace c2 := bkeep hb5 c2; replace c3 := bkeep hb5 c3; replace c4 := bkeep hb5 c4; replace c5 := bkeep hb5 c5; replace c6 := bkeep hb5 c6; replace HB := bt HB hb5; clear hb5) | ((with_reducible refine (cov_of hbd _).mono ?_); rintro e w5 ⟨rfl, hb5⟩; replace c1 := bkeep hb5 c1; replace c2 := bkeep hb5 c2; replace c3 := bkeep hb5 c3; replace c4 := bkeep hb5 c4; replace c5 := bkeep hb5 c5; replace c6 := bkeep hb5 c6; replace HB := bt HB hb5; clear hb5)))
        go_wp2
        go_ret
        exact ⟨rfl, HB⟩
set_option maxHeartbeats 12800000 in
theorem walk_VectorTells (a0 a1 : Int) (u0 : (Lit.int .i64 a0).wf = true) (u1 : (Lit.int .i64 a1).wf = true) (b0 b1 : Int) (v0 : (Lit.int .i64 b0).wf = true) (v1 : (Lit.int .i64 b1).wf = true) (s : ByteArray) (hs : s.size ≤ 140737488351232) {w : World} :
    Calls Try.prog 6 #[VV a0 a1, VV b0 b1, .string s] w fun e w' => e = .returned (.bool true) ∧ Below w.heap.size w w' := by
  have HS := Lib.hid (show s.size ≤ 140737488355320 by omega)
  have HA : Hid (-9223372036854775808 ≤ a0 ∧ a0 ≤ 9223372036854775807 ∧ -9223372036854775808 ≤ a1 ∧ a1 ≤ 9223372036854775807) := by
    have h1 := bounds_i64 u0; have h2 := bounds_i64 u1
    exact ⟨by omega, by omega, by omega, by omega⟩
  clear u0 u1 v0 v1 hs
  have hveq := veq
  obtain ⟨c1, c2, c3, c4⟩ := held4 (w := w) (a := a0) (b := a1) (c := b0) (d := b1) 23
  have HB : Below w.heap.size w ((w.alloc (.cells #[.int .i64 a0, .int .i64 a1] 23)).alloc (.cells #[.int .i64 b0, .int .i64 b1] 23)) := ((Below.refl _ _).alloc (Nat.le_refl _) _).alloc (by simp) _
  by_cases hbig : 3000 < (s.size : Int)
  · go_enter Try.func6, Try.ntmps6
    go_wp2_with fail
    generalize (w.alloc (.cells #[.int .i64 a0, .int .i64 a1] 23)).alloc (.cells #[.int .i64 b0, .int .i64 b1] 23) = W at *
    go_wp2_with (first | (go_at_call 7; (with_reducible refine (works_any _).mono ?_); rintro e w5 ⟨rfl, hb5⟩; replace c1 := bkeep hb5 c1; replace c2 := bkeep hb5 c2; replace c3 := bkeep hb5 c3; replace c4 := bkeep hb5 c4; replace HB := bt HB hb5; clear hb5) | (go_at_call 15; (with_reducible refine (right_any _ _ _).mono ?_); rintro e w5 ⟨rfl, hb5⟩; replace c1 := bkeep hb5 c1; replace c2 := bkeep hb5 c2; replace c3 := bkeep hb5 c3; replace c4 := bkeep hb5 c4; replace HB := bt HB hb5; clear hb5) | (go_at_call 16; (with_reducible refine (rright_any _ _ _).mono ?_); rintro e w5 ⟨rfl, hb5⟩; replace c1 := bkeep hb5 c1; replace c2 := bkeep hb5 c2; replace c3 := bkeep hb5 c3; replace c4 := bkeep hb5 c4; replace HB := bt HB hb5; clear hb5) | (go_at_call 10; (with_reducible refine (compare_any _ _ _ _ _).mono ?_); rintro e w5 ⟨rfl, hb5⟩; replace c1 := bkeep hb5 c1; replace c2 := bkeep hb5 c2; replace c3 := bkeep hb5 c3; replace c4 := bkeep hb5 c4; replace HB := bt HB hb5; clear hb5) | (go_at_call 17; (with_reducible refine (rcompare_any _ _ _ _ _).mono ?_); rintro e w5 ⟨rfl, hb5⟩; replace c1 := bkeep hb5 c1; replace c2 := bkeep hb5 c2; replace c3 := bkeep hb5 c3; replace c4 := bkeep hb5 c4; replace HB := bt HB hb5; clear hb5) | (go_at_call 8; (with_reducible refine (covers_any _ _ _ _ _).mono ?_); rintro e w5 ⟨rfl, hb5⟩; replace c1 := bkeep hb5 c1; replace c2 := bkeep hb5 c2; replace c3 := bkeep hb5 c3; replace c4 := bkeep hb5 c4; replace HB := bt HB hb5; clear hb5) | (go_at_call 18; (with_reducible refine (rcovers_any _ _ _ _ _).mono ?_); rintro e w5 ⟨rfl, hb5⟩; replace c1 := bkeep hb5 c1; replace c2 := bkeep hb5 c2; replace c3 := bkeep hb5 c3; replace c4 := bkeep hb5 c4; replace HB := bt HB hb5; clear hb5) | (go_at_call 9; (with_reducible refine (join_any _ _ _ _ _).mono ?_); rintro e w5 ⟨rfl, hb5⟩; replace c1 := bkeep hb5 c1; replace c2 := bkeep hb5 c2; replace c3 := bkeep hb5 c3; replace c4 := bkeep hb5 c4; replace HB := bt HB hb5; clear hb5) | (go_at_call 19; (with_reducible refine (rjoin_any _ _ _ _ _).mono ?_); rintro e w5 ⟨rfl, hb5⟩; replace c1 := bkeep hb5 c1; replace c2 := bkeep hb5 c2; replace c3 := bkeep hb5 c3; replace c4 := bkeep hb5 c4; replace HB := bt HB hb5; clear hb5) | (go_at_call 20; (with_reducible refine (vput_any _ _ _ _ HA.out.2.1 HA.out.2.2.2 HS.out).mono ?_); rintro e w5 ⟨rfl, hb5⟩; replace c1 := bkeep hb5 c1; replace c2 := bkeep hb5 c2; replace c3 := bkeep hb5 c3; replace c4 := bkeep hb5 c4; replace HB := bt HB hb5; clear hb5) | (go_at_call 21; (with_reducible refine (rvput_any _ _ _ _ HA.out.2.1 HA.out.2.2.2 HS.out).mono ?_); rintro e w5 ⟨rfl, hb5⟩; replace c1 := bkeep hb5 c1; replace c2 := bkeep hb5 c2; replace c3 := bkeep hb5 c3; replace c4 := bkeep hb5 c4; replace HB := bt HB hb5; clear hb5) | (go_at_call 22; (with_reducible refine (vtext_any _ _ _ HA.out.1 HA.out.2.1 HA.out.2.2.1 HA.out.2.2.2).mono ?_); rintro e w5 ⟨rfl, hb5⟩; replace c1 := bkeep hb5 c1; replace c2 := bkeep hb5 c2; replace c3 := bkeep hb5 c3; replace c4 := bkeep hb5 c4; replace HB := bt HB hb5; clear hb5) | (go_at_call 23; (with_reducible refine (rvtext_any _ _ _ HA.out.1 HA.out.2.1 HA.out.2.2.1 HA.out.2.2.2).mono ?_); rintro e w5 ⟨rfl, hb5⟩; replace c1 := bkeep hb5 c1; replace c2 := bkeep hb5 c2; replace c3 := bkeep hb5 c3; replace c4 := bkeep hb5 c4; replace HB := bt HB hb5; clear hb5))
    go_ret
    exact ⟨rfl, HB⟩
  · go_enter Try.func6, Try.ntmps6
    go_wp2_with fail
    generalize (w.alloc (.cells #[.int .i64 a0, .int .i64 a1] 23)).alloc (.cells #[.int .i64 b0, .int .i64 b1] 23) = W at *
    go_wp2_with (first | (go_at_call 7; (with_reducible refine (works_any _).mono ?_); rintro e w5 ⟨rfl, hb5⟩; replace c1 := bkeep hb5 c1; replace c2 := bkeep hb5 c2; replace c3 := bkeep hb5 c3; replace c4 := bkeep hb5 c4; replace HB := bt HB hb5; clear hb5) | (go_at_call 15; (with_reducible refine (right_any _ _ _).mono ?_); rintro e w5 ⟨rfl, hb5⟩; replace c1 := bkeep hb5 c1; replace c2 := bkeep hb5 c2; replace c3 := bkeep hb5 c3; replace c4 := bkeep hb5 c4; replace HB := bt HB hb5; clear hb5) | (go_at_call 16; (with_reducible refine (rright_any _ _ _).mono ?_); rintro e w5 ⟨rfl, hb5⟩; replace c1 := bkeep hb5 c1; replace c2 := bkeep hb5 c2; replace c3 := bkeep hb5 c3; replace c4 := bkeep hb5 c4; replace HB := bt HB hb5; clear hb5) | (go_at_call 10; (with_reducible refine (compare_any _ _ _ _ _).mono ?_); rintro e w5 ⟨rfl, hb5⟩; replace c1 := bkeep hb5 c1; replace c2 := bkeep hb5 c2; replace c3 := bkeep hb5 c3; replace c4 := bkeep hb5 c4; replace HB := bt HB hb5; clear hb5) | (go_at_call 17; (with_reducible refine (rcompare_any _ _ _ _ _).mono ?_); rintro e w5 ⟨rfl, hb5⟩; replace c1 := bkeep hb5 c1; replace c2 := bkeep hb5 c2; replace c3 := bkeep hb5 c3; replace c4 := bkeep hb5 c4; replace HB := bt HB hb5; clear hb5) | (go_at_call 8; (with_reducible refine (covers_any _ _ _ _ _).mono ?_); rintro e w5 ⟨rfl, hb5⟩; replace c1 := bkeep hb5 c1; replace c2 := bkeep hb5 c2; replace c3 := bkeep hb5 c3; replace c4 := bkeep hb5 c4; replace HB := bt HB hb5; clear hb5) | (go_at_call 18; (with_reducible refine (rcovers_any _ _ _ _ _).mono ?_); rintro e w5 ⟨rfl, hb5⟩; replace c1 := bkeep hb5 c1; replace c2 := bkeep hb5 c2; replace c3 := bkeep hb5 c3; replace c4 := bkeep hb5 c4; replace HB := bt HB hb5; clear hb5) | (go_at_call 9; (with_reducible refine (join_any _ _ _ _ _).mono ?_); rintro e w5 ⟨rfl, hb5⟩; replace c1 := bkeep hb5 c1; replace c2 := bkeep hb5 c2; replace c3 := bkeep hb5 c3; replace c4 := bkeep hb5 c4; replace HB := bt HB hb5; clear hb5) | (go_at_call 19; (with_reducible refine (rjoin_any _ _ _ _ _).mono ?_); rintro e w5 ⟨rfl, hb5⟩; replace c1 := bkeep hb5 c1; replace c2 := bkeep hb5 c2; replace c3 := bkeep hb5 c3; replace c4 := bkeep hb5 c4; replace HB := bt HB hb5; clear hb5) | (go_at_call 20; (with_reducible refine (vput_any _ _ _ _ HA.out.2.1 HA.out.2.2.2 HS.out).mono ?_); rintro e w5 ⟨rfl, hb5⟩; replace c1 := bkeep hb5 c1; replace c2 := bkeep hb5 c2; replace c3 := bkeep hb5 c3; replace c4 := bkeep hb5 c4; replace HB := bt HB hb5; clear hb5) | (go_at_call 21; (with_reducible refine (rvput_any _ _ _ _ HA.out.2.1 HA.out.2.2.2 HS.out).mono ?_); rintro e w5 ⟨rfl, hb5⟩; replace c1 := bkeep hb5 c1; replace c2 := bkeep hb5 c2; replace c3 := bkeep hb5 c3; replace c4 := bkeep hb5 c4; replace HB := bt HB hb5; clear hb5) | (go_at_call 22; (with_reducible refine (vtext_any _ _ _ HA.out.1 HA.out.2.1 HA.out.2.2.1 HA.out.2.2.2).mono ?_); rintro e w5 ⟨rfl, hb5⟩; replace c1 := bkeep hb5 c1; replace c2 := bkeep hb5 c2; replace c3 := bkeep hb5 c3; replace c4 := bkeep hb5 c4; replace HB := bt HB hb5; clear hb5) | (go_at_call 23; (with_reducible refine (rvtext_any _ _ _ HA.out.1 HA.out.2.1 HA.out.2.2.1 HA.out.2.2.2).mono ?_); rintro e w5 ⟨rfl, hb5⟩; replace c1 := bkeep hb5 c1; replace c2 := bkeep hb5 c2; replace c3 := bkeep hb5 c3; replace c4 := bkeep hb5 c4; replace HB := bt HB hb5; clear hb5))
    replace HB := HB.drew
    go_region_held3 (fun w' => (w'.cell? ⟨w.heap.size, 0, none⟩ = some (.int .i64 a0) ∧ w'.cell? ⟨w.heap.size, 1, none⟩ = some (.int .i64 a1)) ∧ (w'.cell? ⟨w.heap.size + 1, 0, none⟩ = some (.int .i64 b0) ∧ w'.cell? ⟨w.heap.size + 1, 1, none⟩ = some (.int .i64 b1))) (first | exact ⟨⟨c1, c2⟩, c3, c4⟩) (first | (go_at_call 7; (with_reducible refine (works_any _).mono ?_); rintro e w5 ⟨rfl, hb5⟩; replace c1 := bkeep hb5 c1; replace c2 := bkeep hb5 c2; replace c3 := bkeep hb5 c3; replace c4 := bkeep hb5 c4; replace HB := bt HB hb5; clear hb5) | (go_at_call 15; (with_reducible refine (right_any _ _ _).mono ?_); rintro e w5 ⟨rfl, hb5⟩; replace c1 := bkeep hb5 c1; replace c2 := bkeep hb5 c2; replace c3 := bkeep hb5 c3; replace c4 := bkeep hb5 c4; replace HB := bt HB hb5; clear hb5) | (go_at_call 16; (with_reducible refine (rright_any _ _ _).mono ?_); rintro e w5 ⟨rfl, hb5⟩; replace c1 := bkeep hb5 c1; replace c2 := bkeep hb5 c2; replace c3 := bkeep hb5 c3; replace c4 := bkeep hb5 c4; replace HB := bt HB hb5; clear hb5) | (go_at_call 10; (with_reducible refine (compare_any _ _ _ _ _).mono ?_); rintro e w5 ⟨rfl, hb5⟩; replace c1 := bkeep hb5 c1; replace c2 := bkeep hb5 c2; replace c3 := bkeep hb5 c3; replace c4 := bkeep hb5 c4; replace HB := bt HB hb5; clear hb5) | (go_at_call 17; (with_reducible refine (rcompare_any _ _ _ _ _).mono ?_); rintro e w5 ⟨rfl, hb5⟩; replace c1 := bkeep hb5 c1; replace c2 := bkeep hb5 c2; replace c3 := bkeep hb5 c3; replace c4 := bkeep hb5 c4; replace HB := bt HB hb5; clear hb5) | (go_at_call 8; (with_reducible refine (covers_any _ _ _ _ _).mono ?_); rintro e w5 ⟨rfl, hb5⟩; replace c1 := bkeep hb5 c1; replace c2 := bkeep hb5 c2; replace c3 := bkeep hb5 c3; replace c4 := bkeep hb5 c4; replace HB := bt HB hb5; clear hb5) | (go_at_call 18; (with_reducible refine (rcovers_any _ _ _ _ _).mono ?_); rintro e w5 ⟨rfl, hb5⟩; replace c1 := bkeep hb5 c1; replace c2 := bkeep hb5 c2; replace c3 := bkeep hb5 c3; replace c4 := bkeep hb5 c4; replace HB := bt HB hb5; clear hb5) | (go_at_call 9; (with_reducible refine (join_any _ _ _ _ _).mono ?_); rintro e w5 ⟨rfl, hb5⟩; replace c1 := bkeep hb5 c1; replace c2 := bkeep hb5 c2; replace c3 := bkeep hb5 c3; replace c4 := bkeep hb5 c4; replace HB := bt HB hb5; clear hb5) | (go_at_call 19; (with_reducible refine (rjoin_any _ _ _ _ _).mono ?_); rintro e w5 ⟨rfl, hb5⟩; replace c1 := bkeep hb5 c1; replace c2 := bkeep hb5 c2; replace c3 := bkeep hb5 c3; replace c4 := bkeep hb5 c4; replace HB := bt HB hb5; clear hb5) | (go_at_call 20; (with_reducible refine (vput_any _ _ _ _ HA.out.2.1 HA.out.2.2.2 HS.out).mono ?_); rintro e w5 ⟨rfl, hb5⟩; replace c1 := bkeep hb5 c1; replace c2 := bkeep hb5 c2; replace c3 := bkeep hb5 c3; replace c4 := bkeep hb5 c4; replace HB := bt HB hb5; clear hb5) | (go_at_call 21; (with_reducible refine (rvput_any _ _ _ _ HA.out.2.1 HA.out.2.2.2 HS.out).mono ?_); rintro e w5 ⟨rfl, hb5⟩; replace c1 := bkeep hb5 c1; replace c2 := bkeep hb5 c2; replace c3 := bkeep hb5 c3; replace c4 := bkeep hb5 c4; replace HB := bt HB hb5; clear hb5) | (go_at_call 22; (with_reducible refine (vtext_any _ _ _ HA.out.1 HA.out.2.1 HA.out.2.2.1 HA.out.2.2.2).mono ?_); rintro e w5 ⟨rfl, hb5⟩; replace c1 := bkeep hb5 c1; replace c2 := bkeep hb5 c2; replace c3 := bkeep hb5 c3; replace c4 := bkeep hb5 c4; replace HB := bt HB hb5; clear hb5) | (go_at_call 23; (with_reducible refine (rvtext_any _ _ _ HA.out.1 HA.out.2.1 HA.out.2.2.1 HA.out.2.2.2).mono ?_); rintro e w5 ⟨rfl, hb5⟩; replace c1 := bkeep hb5 c1; replace c2 := bkeep hb5 c2; replace c3 := bkeep hb5 c3; replace c4 := bkeep hb5 c4; replace HB := bt HB hb5; clear hb5))
    go_wp2
    go_ret
    exact ⟨rfl, HB⟩
end Go.Proofs.Ytbikkiinheemfaa
