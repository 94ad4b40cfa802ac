/-
  The statements of chapter 5: walks (3).
-/
import Derived.Test.YtbikkiinheemfaaVectorLaw2
namespace Go.Proofs.Ytbikkiinheemfaa
open Go.RowKit
set_option linter.unusedVariables false
set_option linter.unusedSimpArgs false
theorem bump_fact (a b node boot : Int) (h : bumpE a b node boot = 0) : cmpZ (bumpA a b node boot) (bumpB a b node boot) a b = 1 ∧ cmpZ a b (bumpA a b node boot) (bumpB a b node boot) = 2 ∧ decide (boot * 16777216 < atZ (bumpA a b node boot) (bumpB a b node boot) node) = true ∧ 0 ≤ boot ∧ boot ≤ 16777216 := by
  have hok : bumpOk a b node boot = true := by
    unfold bumpE at h
    by_cases hk : bumpOk a b node boot = true
    · exact hk
    · rw [if_neg hk] at h; cases h
  have hn : bumpA a b node boot = (if node = 0 then bumpN a b node boot else a) ∧ bumpB a b node boot = (if node = 0 then b else bumpN a b node boot) := by
    unfold bumpA bumpB; rw [if_pos h, if_pos h]; exact ⟨rfl, rfl⟩
  unfold bumpOk at hok
  rw [Bool.and_eq_true, Bool.and_eq_true, decide_eq_true_iff] at hok
  obtain ⟨⟨hnode, hr⟩, hw⟩ := hok
  obtain ⟨t0, t1⟩ := of_decide_eq_true hw
  have hN : atZ a b node < bumpN a b node boot ∧ boot * 16777216 < bumpN a b node boot := by
    unfold bumpN mx; split <;> omega
  have key : coversB (bumpA a b node boot) (bumpB a b node boot) a b = true ∧ coversB a b (bumpA a b node boot) (bumpB a b node boot) = false ∧ atZ (bumpA a b node boot) (bumpB a b node boot) node = bumpN a b node boot := by
    rw [hn.1, hn.2]
    unfold atZ at hN ⊢
    unfold coversB
    rcases hnode with rfl | rfl
    · rw [if_pos rfl] at hN
      refine ⟨decide_eq_true ?_, decide_eq_false ?_, ?_⟩
      · rw [if_pos rfl, if_pos rfl]; omega
      · rw [if_pos rfl, if_pos rfl]; omega
      · rw [if_pos rfl, if_pos rfl]
    · rw [if_neg (by decide), if_pos rfl] at hN
      refine ⟨decide_eq_true ?_, decide_eq_false ?_, ?_⟩
      · rw [if_neg (by decide), if_neg (by decide)]; omega
      · rw [if_neg (by decide), if_neg (by decide)]; omega
      · rw [if_neg (by decide), if_pos rfl, if_neg (by decide)]
  refine ⟨?_, ?_, ?_, t0, t1⟩
  · unfold cmpZ; rw [key.1, key.2.1]; rfl
  · unfold cmpZ; rw [key.1, key.2.1]; rfl
  · rw [key.2.2]; exact decide_eq_true hN.2
theorem bump_of {a b node boot x y e0 : Int} (hx : bumpA a b node boot = x) (hy : bumpB a b node boot = y) (he : bumpE a b node boot = e0) (w : World) : Calls Try.prog 11 #[VV a b, .int .i64 node, .int .i64 boot] w fun e w' => e = .returned (.tuple #[VV x y, .int .i64 e0]) ∧ Below w.heap.size w w' := hx ▸ hy ▸ he ▸ bump_any a b node boot w
theorem rbump_of {a b node boot x y e0 : Int} (hx : bumpA a b node boot = x) (hy : bumpB a b node boot = y) (he : bumpE a b node boot = e0) (w : World) (ha : a ≤ 9223372036854775807) (hb : b ≤ 9223372036854775807) (ht : boot ≤ 9223372036854775807) : Calls Try.prog 12 #[VV a b, .int .i64 node, .int .i64 boot] w fun e w' => e = .returned (.tuple #[VV x y, .int .i64 e0]) ∧ Below w.heap.size w w' := hx ▸ hy ▸ he ▸ rbump_any a b node boot w ha hb ht
theorem at_of {a b n r : Int} (h : atZ a b n = r) (w : World) : Calls Try.prog 13 #[VV a b, .int .i64 n] w fun e w' => e = .returned (.int .i64 r) ∧ Below w.heap.size w w' := h ▸ at_any a b n w
theorem rat_of {a b n r : Int} (h : atZ a b n = r) (w : World) : Calls Try.prog 14 #[VV a b, .int .i64 n] w fun e w' => e = .returned (.int .i64 r) ∧ Below w.heap.size w w' := h ▸ rat_any a b n w
set_option maxHeartbeats 12800000 in
theorem walk_VectorBumps (a0 a1 : Int) (u0 : (Lit.int .i64 a0).wf = true) (u1 : (Lit.int .i64 a1).wf = true) (node : Int) (un : (Lit.int .i64 node).wf = true) (boot : Int) (ub : (Lit.int .i64 boot).wf = true) {w : World} :
    Calls Try.prog 5 #[VV a0 a1, .int .i64 node, .int .i64 boot] w fun e w' => e = .returned (.bool true) ∧ Below w.heap.size w w' := by
  have HA : Hid (a0 ≤ 9223372036854775807 ∧ a1 ≤ 9223372036854775807 ∧ boot ≤ 9223372036854775807) := by
    have h1 := bounds_i64 u0; have h2 := bounds_i64 u1; have h3 := bounds_i64 ub
    exact ⟨by omega, by omega, by omega⟩
  clear u0 u1 un ub
  have hfact := bump_fact a0 a1 node boot
  obtain ⟨x, hx⟩ : ∃ x, bumpA a0 a1 node boot = x := ⟨_, rfl⟩
  obtain ⟨y, hy⟩ : ∃ x, bumpB a0 a1 node boot = x := ⟨_, rfl⟩
  obtain ⟨e0, he⟩ : ∃ x, bumpE a0 a1 node boot = x := ⟨_, rfl⟩
  rw [hx, hy, he] at hfact
  obtain ⟨z, hz⟩ : ∃ z, atZ a0 a1 node = z := ⟨_, rfl⟩
  obtain ⟨u, hu⟩ : ∃ z, atZ x y node = z := ⟨_, rfl⟩
  rw [hu] at hfact
  have HX := Lib.hid hx
  have HY := Lib.hid hy
  have HE := Lib.hid he
  have HZ := Lib.hid hz
  have HU := Lib.hid hu
  have e1 := fun W => vne_of (a := x) (b := y) (c := x) (d := y) (r := true) (by simp) W
  clear hx hy he hz hu
  obtain ⟨c1, c2⟩ := held2 (w := w) (a := a0) (b := a1) 23
  have HB : Below w.heap.size w (w.alloc (.cells #[.int .i64 a0, .int .i64 a1] 23)) := (Below.refl _ _).alloc (Nat.le_refl _) _
  by_cases h0 : e0 = 0
  · obtain ⟨k1, k2, k3, t0, t1⟩ := hfact h0
    have K1 := Lib.hid k1
    have K2 := Lib.hid k2
    clear hfact k1 k2
    subst h0
    go_enter Try.func5, Try.ntmps5
    go_wp2_with fail
    generalize w.alloc (.cells #[.int .i64 a0, .int .i64 a1] 23) = W at *
    refine (works_any _).mono ?_
    rintro e w5 ⟨rfl, hb5⟩
    replace c1 := bkeep hb5 c1; replace c2 := bkeep hb5 c2; replace HB := bt HB hb5; clear hb5
    go_wp2_with fail
    refine (bump_of HX.out HY.out HE.out _).mono ?_
    rintro e wa ⟨rfl, hb5⟩
    replace c1 := bkeep hb5 c1; replace c2 := bkeep hb5 c2; replace HB := bt HB hb5; clear hb5
    obtain ⟨c3, c4⟩ := held2 (w := wa) (a := x) (b := y) 23
    have hb5 : Below wa.heap.size wa (wa.alloc (.cells #[.int .i64 x, .int .i64 y] 23)) := (Below.refl _ _).alloc (Nat.le_refl _) _
    replace c1 := bkeep hb5 c1; replace c2 := bkeep hb5 c2; replace HB := bt HB hb5; clear hb5
    go_wp2_with fail
    generalize wa.alloc (.cells #[.int .i64 x, .int .i64 y] 23) = Wa at *
    refine (rbump_of HX.out HY.out HE.out _ HA.out.1 HA.out.2.1 HA.out.2.2).mono ?_
    rintro e wb ⟨rfl, hb5⟩
    replace c1 := bkeep hb5 c1; replace c2 := bkeep hb5 c2; replace c3 := bkeep hb5 c3; replace c4 := bkeep hb5 c4; replace HB := bt HB hb5; clear hb5
    obtain ⟨c5, c6⟩ := held2 (w := wb) (a := x) (b := y) 23
    have hb5 : Below wb.heap.size wb (wb.alloc (.cells #[.int .i64 x, .int .i64 y] 23)) := (Below.refl _ _).alloc (Nat.le_refl _) _
    replace c1 := bkeep hb5 c1; replace c2 := bkeep hb5 c2; replace c3 := bkeep hb5 c3; replace c4 := bkeep hb5 c4; replace HB := bt HB hb5; clear hb5
    go_wp2_with fail
    generalize wb.alloc (.cells #[.int .i64 x, .int .i64 y] 23) = Wb at *
    replace HB := HB.drew
    refine wp_region_held_drew (S := (fun w' => (w'.cell? ⟨w.heap.size, 0, none⟩ = some (.int .i64 a0) ∧ w'.cell? ⟨w.heap.size, 1, none⟩ = some (.int .i64 a1)) ∧ (w'.cell? ⟨wa.heap.size, 0, none⟩ = some (.int .i64 x) ∧ w'.cell? ⟨wa.heap.size, 1, none⟩ = some (.int .i64 y)) ∧ (w'.cell? ⟨wb.heap.size, 0, none⟩ = some (.int .i64 x) ∧ w'.cell? ⟨wb.heap.size, 1, none⟩ = some (.int .i64 y)))) (by kernel_rfl) ?_ (fun hHeld => ?_)
    · exact ⟨⟨c1, c2⟩, ⟨c3, c4⟩, c5, c6⟩
    first | (refine take_w (i := 0) (d := (some 27)) (v := ?_) (by rfl) (by kernel_rfl) (by kernel_rfl) (by kernel_rfl) (fun _ _ _ h => h) (by rfl) ?_ (by assumption) ?_; rotate_left; (intro o ho; simp only [List.getElem?_toArray, List.getElem?_cons_succ, List.getElem?_cons_zero, Option.some.injEq] at ho; subst ho; intro w hSw; (try dsimp only at hSw); go_simp); (try with_reducible rfl)) | (refine take_n (i := 0) (d := (some 27)) (by rfl) (by kernel_rfl) (by kernel_rfl) (by kernel_rfl) (fun _ _ _ h => h) (by rfl) (by assumption) ?_)
    try simp only [Act.put, List.setIfInBounds_toArray, List.set_cons_zero, List.set_cons_succ]
    first | (refine take_w (i := 1) (d := (some 28)) (v := ?_) (by rfl) (by kernel_rfl) (by kernel_rfl) (by kernel_rfl) (fun _ _ _ h => h) (by rfl) ?_ (by assumption) ?_; rotate_left; (intro o ho; simp only [List.getElem?_toArray, List.getElem?_cons_succ, List.getElem?_cons_zero, Option.some.injEq] at ho; subst ho; intro w hSw; (try dsimp only at hSw); go_simp); (try with_reducible rfl)) | (refine take_n (i := 1) (d := (some 28)) (by rfl) (by kernel_rfl) (by kernel_rfl) (by kernel_rfl) (fun _ _ _ h => h) (by rfl) (by assumption) ?_)
    try simp only [Act.put, List.setIfInBounds_toArray, List.set_cons_zero, List.set_cons_succ]
    first | (refine take_w (i := 2) (d := (some 29)) (v := ?_) (by rfl) (by kernel_rfl) (by kernel_rfl) (by kernel_rfl) (fun _ _ _ h => h) (by rfl) ?_ (by assumption) ?_; rotate_left; (intro o ho; simp only [List.getElem?_toArray, List.getElem?_cons_succ, List.getElem?_cons_zero, Option.some.injEq] at ho; subst ho; intro w hSw; (try dsimp only at hSw); go_simp); (try with_reducible rfl)) | (refine take_n (i := 2) (d := (some 29)) (by rfl) (by kernel_rfl) (by kernel_rfl) (by kernel_rfl) (fun _ _ _ h => h) (by rfl) (by assumption) ?_)
    try simp only [Act.put, List.setIfInBounds_toArray, List.set_cons_zero, List.set_cons_succ]
    first | (refine take_w (i := 3) (d := (some 30)) (v := ?_) (by rfl) (by kernel_rfl) (by kernel_rfl) (by kernel_rfl) (fun _ _ _ h => h) (by rfl) ?_ (by assumption) ?_; rotate_left; (intro o ho; simp only [List.getElem?_toArray, List.getElem?_cons_succ, List.getElem?_cons_zero, Option.some.injEq] at ho; subst ho; intro w hSw; (try dsimp only at hSw); go_simp); (try with_reducible rfl)) | (refine take_n (i := 3) (d := (some 30)) (by rfl) (by kernel_rfl) (by kernel_rfl) (by kernel_rfl) (fun _ _ _ h => h) (by rfl) (by assumption) ?_)
    try simp only [Act.put, List.setIfInBounds_toArray, List.set_cons_zero, List.set_cons_succ]
    first | (refine take_w (i := 4) (d := (some 31)) (v := ?_) (by rfl) (by kernel_rfl) (by kernel_rfl) (by kernel_rfl) (fun _ _ _ h => h) (by rfl) ?_ (by assumption) ?_; rotate_left; (intro o ho; simp only [List.getElem?_toArray, List.getElem?_cons_succ, List.getElem?_cons_zero, Option.some.injEq] at ho; subst ho; intro w hSw; (try dsimp only at hSw); go_simp); (try with_reducible rfl)) | (refine take_n (i := 4) (d := (some 31)) (by rfl) (by kernel_rfl) (by kernel_rfl) (by kernel_rfl) (fun _ _ _ h => h) (by rfl) (by assumption) ?_)
    try simp only [Act.put, List.setIfInBounds_toArray, List.set_cons_zero, List.set_cons_succ]
    first | (refine take_w (i := 5) (d := (some 32)) (v := ?_) (by rfl) (by kernel_rfl) (by kernel_rfl) (by kernel_rfl) (fun _ _ _ h => h) (by rfl) ?_ (by assumption) ?_; rotate_left; (intro o ho; simp only [List.getElem?_toArray, List.getElem?_cons_succ, List.getElem?_cons_zero, Option.some.injEq] at ho; subst ho; intro w hSw; (try dsimp only at hSw); go_simp); (try with_reducible rfl)) | (refine take_n (i := 5) (d := (some 32)) (by rfl) (by kernel_rfl) (by kernel_rfl) (by kernel_rfl) (fun _ _ _ h => h) (by rfl) (by assumption) ?_)
    try simp only [Act.put, List.setIfInBounds_toArray, List.set_cons_zero, List.set_cons_succ]
    first | (refine take_w (i := 6) (d := (some 33)) (v := ?_) (by rfl) (by kernel_rfl) (by kernel_rfl) (by kernel_rfl) (fun _ _ _ h => h) (by rfl) ?_ (by assumption) ?_; rotate_left; (intro o ho; simp only [List.getElem?_toArray, List.getElem?_cons_succ, List.getElem?_cons_zero, Option.some.injEq] at ho; subst ho; intro w hSw; (try dsimp only at hSw); go_simp); (try with_reducible rfl)) | (refine take_n (i := 6) (d := (some 33)) (by rfl) (by kernel_rfl) (by kernel_rfl) (by kernel_rfl) (fun _ _ _ h => h) (by rfl) (by assumption) ?_)
    try simp only [Act.put, List.setIfInBounds_toArray, List.set_cons_zero, List.set_cons_succ]
    first | (refine take_w (i := 7) (d := (some 34)) (v := ?_) (by rfl) (by kernel_rfl) (by kernel_rfl) (by kernel_rfl) (fun _ _ _ h => h) (by rfl) ?_ (by assumption) ?_; rotate_left; (intro o ho; simp only [List.getElem?_toArray, List.getElem?_cons_succ, List.getElem?_cons_zero, Option.some.injEq] at ho; subst ho; intro w hSw; (try dsimp only at hSw); go_simp); (try with_reducible rfl)) | (refine take_n (i := 7) (d := (some 34)) (by rfl) (by kernel_rfl) (by kernel_rfl) (by kernel_rfl) (fun _ _ _ h => h) (by rfl) (by assumption) ?_)
    try simp only [Act.put, List.setIfInBounds_toArray, List.set_cons_zero, List.set_cons_succ]
    first | (refine take_w (i := 8) (d := (some 35)) (v := ?_) (by rfl) (by kernel_rfl) (by kernel_rfl) (by kernel_rfl) (fun _ _ _ h => h) (by rfl) ?_ (by assumption) ?_; rotate_left; (intro o ho; simp only [List.getElem?_toArray, List.getElem?_cons_succ, List.getElem?_cons_zero, Option.some.injEq] at ho; subst ho; intro w hSw; (try dsimp only at hSw); go_simp); (try with_reducible rfl)) | (refine take_n (i := 8) (d := (some 35)) (by rfl) (by kernel_rfl) (by kernel_rfl) (by kernel_rfl) (fun _ _ _ h => h) (by rfl) (by assumption) ?_)
    try simp only [Act.put, List.setIfInBounds_toArray, List.set_cons_zero, List.set_cons_succ]
    first | (refine take_w (i := 9) (d := (some 36)) (v := ?_) (by rfl) (by kernel_rfl) (by kernel_rfl) (by kernel_rfl) (fun _ _ _ h => h) (by rfl) ?_ (by assumption) ?_; rotate_left; (intro o ho; simp only [List.getElem?_toArray, List.getElem?_cons_succ, List.getElem?_cons_zero, Option.some.injEq] at ho; subst ho; intro w hSw; (try dsimp only at hSw); go_simp); (try with_reducible rfl)) | (refine take_n (i := 9) (d := (some 36)) (by rfl) (by kernel_rfl) (by kernel_rfl) (by kernel_rfl) (fun _ _ _ h => h) (by rfl) (by assumption) ?_)
    try simp only [Act.put, List.setIfInBounds_toArray, List.set_cons_zero, List.set_cons_succ]
    first | (refine take_w (i := 10) (d := (some 37)) (v := ?_) (by rfl) (by kernel_rfl) (by kernel_rfl) (by kernel_rfl) (fun _ _ _ h => h) (by rfl) ?_ (by assumption) ?_; rotate_left; (intro o ho; simp only [List.getElem?_toArray, List.getElem?_cons_succ, List.getElem?_cons_zero, Option.some.injEq] at ho; subst ho; intro w hSw; (try dsimp only at hSw); go_simp); (try with_reducible rfl)) | (refine take_n (i := 10) (d := (some 37)) (by rfl) (by kernel_rfl) (by kernel_rfl) (by kernel_rfl) (fun _ _ _ h => h) (by rfl) (by assumption) ?_)
    try simp only [Act.put, List.setIfInBounds_toArray, List.set_cons_zero, List.set_cons_succ]
    first | (refine take_w (i := 12) (d := (some 39)) (v := ?_) (by rfl) (by kernel_rfl) (by kernel_rfl) (by kernel_rfl) (fun _ _ _ h => h) (by rfl) ?_ (by assumption) ?_; rotate_left; (intro o ho; simp only [List.getElem?_toArray, List.getElem?_cons_succ, List.getElem?_cons_zero, Option.some.injEq] at ho; subst ho; intro w hSw; (try dsimp only at hSw); go_simp); (try with_reducible rfl)) | (refine take_n (i := 12) (d := (some 39)) (by rfl) (by kernel_rfl) (by kernel_rfl) (by kernel_rfl) (fun _ _ _ h => h) (by rfl) (by assumption) ?_)
    try simp only [Act.put, List.setIfInBounds_toArray, List.set_cons_zero, List.set_cons_succ]
    first | (refine take_w (i := 13) (d := (some 40)) (v := ?_) (by rfl) (by kernel_rfl) (by kernel_rfl) (by kernel_rfl) (fun _ _ _ h => h) (by rfl) ?_ (by assumption) ?_; rotate_left; (intro o ho; simp only [List.getElem?_toArray, List.getElem?_cons_succ, List.getElem?_cons_zero, Option.some.injEq] at ho; subst ho; intro w hSw; (try dsimp only at hSw); go_simp); (try with_reducible rfl)) | (refine take_n (i := 13) (d := (some 40)) (by rfl) (by kernel_rfl) (by kernel_rfl) (by kernel_rfl) (fun _ _ _ h => h) (by rfl) (by assumption) ?_)
    try simp only [Act.put, List.setIfInBounds_toArray, List.set_cons_zero, List.set_cons_succ]
    refine call_next (i := 11) (by kernel_rfl) (by rfl) ?_
    intro o ho K hK
    simp only [List.getElem?_toArray, List.getElem?_cons_succ, List.getElem?_cons_zero, Option.some.injEq] at ho
    subst ho
    go_simp
    first | (with_reducible refine hK.out _ _ ?_ (fun hHeld => ?_)) | ((first | (go_at_call 13; first | ((with_reducible refine (at_of HZ.out _).mono ?_); rintro e w5 ⟨rfl, hb5⟩; replace c1 := bkeep hb5 c1; replace c2 := bkeep hb5 c2; replace c3 := bkeep hb5 c3; replace c4 := bkeep hb5 c4; replace c5 := bkeep hb5 c5; replace c6 := bkeep hb5 c6; replace HB := bt HB hb5; clear hb5) | ((with_reducible refine (at_of HU.out _).mono ?_); rintro e w5 ⟨rfl, hb5⟩; replace c1 := bkeep hb5 c1; replace c2 := bkeep hb5 c2; replace c3 := bkeep hb5 c3; replace c4 := bkeep hb5 c4; replace c5 := bkeep hb5 c5; replace c6 := bkeep hb5 c6; replace HB := bt HB hb5; clear hb5)) | (go_at_call 14; (with_reducible refine (rat_of HZ.out _).mono ?_); rintro e w5 ⟨rfl, hb5⟩; replace c1 := bkeep hb5 c1; replace c2 := bkeep hb5 c2; replace c3 := bkeep hb5 c3; replace c4 := bkeep hb5 c4; replace c5 := bkeep hb5 c5; replace c6 := bkeep hb5 c6; replace HB := bt HB hb5; clear hb5) | (go_at_call 10; first | ((with_reducible refine (cmp_of K1.out _).mono ?_); rintro e w5 ⟨rfl, hb5⟩; replace c1 := bkeep hb5 c1; replace c2 := bkeep hb5 c2; replace c3 := bkeep hb5 c3; replace c4 := bkeep hb5 c4; replace c5 := bkeep hb5 c5; replace c6 := bkeep hb5 c6; replace HB := bt HB hb5; clear hb5) | ((with_reducible refine (cmp_of K2.out _).mono ?_); rintro e w5 ⟨rfl, hb5⟩; replace c1 := bkeep hb5 c1; replace c2 := bkeep hb5 c2; replace c3 := bkeep hb5 c3; replace c4 := bkeep hb5 c4; replace c5 := bkeep hb5 c5; replace c6 := bkeep hb5 c6; replace HB := bt HB hb5; clear hb5))); refine hK.out _ _ ?_ (fun hHeld => ?_))
    · exact ⟨⟨c1, c2⟩, ⟨c3, c4⟩, c5, c6⟩
    clear hK K
    try simp only [Act.put, List.setIfInBounds_toArray, List.set_cons_zero, List.set_cons_succ]
    refine call_next (i := 14) (by kernel_rfl) (by rfl) ?_
    intro o ho K hK
    simp only [List.getElem?_toArray, List.getElem?_cons_succ, List.getElem?_cons_zero, Option.some.injEq] at ho
    subst ho
    go_simp
    first | (with_reducible refine hK.out _ _ ?_ (fun hHeld => ?_)) | ((first | (go_at_call 13; first | ((with_reducible refine (at_of HZ.out _).mono ?_); rintro e w5 ⟨rfl, hb5⟩; replace c1 := bkeep hb5 c1; replace c2 := bkeep hb5 c2; replace c3 := bkeep hb5 c3; replace c4 := bkeep hb5 c4; replace c5 := bkeep hb5 c5; replace c6 := bkeep hb5 c6; replace HB := bt HB hb5; clear hb5) | ((with_reducible refine (at_of HU.out _).mono ?_); rintro e w5 ⟨rfl, hb5⟩; replace c1 := bkeep hb5 c1; replace c2 := bkeep hb5 c2; replace c3 := bkeep hb5 c3; replace c4 := bkeep hb5 c4; replace c5 := bkeep hb5 c5; replace c6 := bkeep hb5 c6; replace HB := bt HB hb5; clear hb5)) | (go_at_call 14; (with_reducible refine (rat_of HZ.out _).mono ?_); rintro e w5 ⟨rfl, hb5⟩; replace c1 := bkeep hb5 c1; replace c2 := bkeep hb5 c2; replace c3 := bkeep hb5 c3; replace c4 := bkeep hb5 c4; replace c5 := bkeep hb5 c5; replace c6 := bkeep hb5 c6; replace HB := bt HB hb5; clear hb5) | (go_at_call 10; first | ((with_reducible refine (cmp_of K1.out _).mono ?_); rintro e w5 ⟨rfl, hb5⟩; replace c1 := bkeep hb5 c1; replace c2 := bkeep hb5 c2; replace c3 := bkeep hb5 c3; replace c4 := bkeep hb5 c4; replace c5 := bkeep hb5 c5; replace c6 := bkeep hb5 c6; replace HB := bt HB hb5; clear hb5) | ((with_reducible refine (cmp_of K2.out _).mono ?_); rintro e w5 ⟨rfl, hb5⟩; replace c1 := bkeep hb5 c1; replace c2 := bkeep hb5 c2; replace c3 := bkeep hb5 c3; replace c4 := bkeep hb5 c4; replace c5 := bkeep hb5 c5; replace c6 := bkeep hb5 c6; replace HB := bt HB hb5; clear hb5))); refine hK.out _ _ ?_ (fun hHeld => ?_))
    · exact ⟨⟨c1, c2⟩, ⟨c3, c4⟩, c5, c6⟩
    clear hK K
    try simp only [Act.put, List.setIfInBounds_toArray, List.set_cons_zero, List.set_cons_succ]
    first | (refine take_w (i := 15) (d := (some 42)) (v := ?_) (by rfl) (by kernel_rfl) (by kernel_rfl) (by kernel_rfl) (fun _ _ _ h => h) (by rfl) ?_ (by assumption) ?_; rotate_left; (intro o ho; simp only [List.getElem?_toArray, List.getElem?_cons_succ, List.getElem?_cons_zero, Option.some.injEq] at ho; subst ho; intro w hSw; (try dsimp only at hSw); go_simp); (try with_reducible rfl)) | (refine take_n (i := 15) (d := (some 42)) (by rfl) (by kernel_rfl) (by kernel_rfl) (by kernel_rfl) (fun _ _ _ h => h) (by rfl) (by assumption) ?_)
    try simp only [Act.put, List.setIfInBounds_toArray, List.set_cons_zero, List.set_cons_succ]
    first | (refine take_w (i := 16) (d := (some 43)) (v := ?_) (by rfl) (by kernel_rfl) (by kernel_rfl) (by kernel_rfl) (fun _ _ _ h => h) (by rfl) ?_ (by assumption) ?_; rotate_left; (intro o ho; simp only [List.getElem?_toArray, List.getElem?_cons_succ, List.getElem?_cons_zero, Option.some.injEq] at ho; subst ho; intro w hSw; (try dsimp only at hSw); go_simp); (try with_reducible rfl)) | (refine take_n (i := 16) (d := (some 43)) (by rfl) (by kernel_rfl) (by kernel_rfl) (by kernel_rfl) (fun _ _ _ h => h) (by rfl) (by assumption) ?_)
    try simp only [Act.put, List.setIfInBounds_toArray, List.set_cons_zero, List.set_cons_succ]
    refine wpAnyH_done (by kernel_rfl) ?_ _
    go_wp2_with (first | (go_at_call 13; first | ((with_reducible refine (at_of HZ.out _).mono ?_); rintro e w5 ⟨rfl, hb5⟩; replace c1 := bkeep hb5 c1; replace c2 := bkeep hb5 c2; replace c3 := bkeep hb5 c3; replace c4 := bkeep hb5 c4; replace c5 := bkeep hb5 c5; replace c6 := bkeep hb5 c6; replace HB := bt HB hb5; clear hb5) | ((with_reducible refine (at_of HU.out _).mono ?_); rintro e w5 ⟨rfl, hb5⟩; replace c1 := bkeep hb5 c1; replace c2 := bkeep hb5 c2; replace c3 := bkeep hb5 c3; replace c4 := bkeep hb5 c4; replace c5 := bkeep hb5 c5; replace c6 := bkeep hb5 c6; replace HB := bt HB hb5; clear hb5)) | (go_at_call 14; (with_reducible refine (rat_of HZ.out _).mono ?_); rintro e w5 ⟨rfl, hb5⟩; replace c1 := bkeep hb5 c1; replace c2 := bkeep hb5 c2; replace c3 := bkeep hb5 c3; replace c4 := bkeep hb5 c4; replace c5 := bkeep hb5 c5; replace c6 := bkeep hb5 c6; replace HB := bt HB hb5; clear hb5) | (go_at_call 10; first | ((with_reducible refine (cmp_of K1.out _).mono ?_); rintro e w5 ⟨rfl, hb5⟩; replace c1 := bkeep hb5 c1; replace c2 := bkeep hb5 c2; replace c3 := bkeep hb5 c3; replace c4 := bkeep hb5 c4; replace c5 := bkeep hb5 c5; replace c6 := bkeep hb5 c6; replace HB := bt HB hb5; clear hb5) | ((with_reducible refine (cmp_of K2.out _).mono ?_); rintro e w5 ⟨rfl, hb5⟩; replace c1 := bkeep hb5 c1; replace c2 := bkeep hb5 c2; replace c3 := bkeep hb5 c3; replace c4 := bkeep hb5 c4; replace c5 := bkeep hb5 c5; replace c6 := bkeep hb5 c6; replace HB := bt HB hb5; clear hb5)))
    go_ret
    exact ⟨rfl, HB⟩
  · have hne : (e0 == 0) = false := by simpa using h0
    have K1 : Hid (cmpZ 0 0 0 0 = 0) := by show _ = _; rfl
    have K2 := K1
    clear hfact
    go_enter Try.func5, Try.ntmps5
    go_wp2_with fail
    generalize w.alloc (.cells #[.int .i64 a0, .int .i64 a1] 23) = W at *
    refine (works_any _).mono ?_
    rintro e w5 ⟨rfl, hb5⟩
    replace c1 := bkeep hb5 c1; replace c2 := bkeep hb5 c2; replace HB := bt HB hb5; clear hb5
    go_wp2_with fail
    refine (bump_of HX.out HY.out HE.out _).mono ?_
    rintro e wa ⟨rfl, hb5⟩
    replace c1 := bkeep hb5 c1; replace c2 := bkeep hb5 c2; replace HB := bt HB hb5; clear hb5
    obtain ⟨c3, c4⟩ := held2 (w := wa) (a := x) (b := y) 23
    have hb5 : Below wa.heap.size wa (wa.alloc (.cells #[.int .i64 x, .int .i64 y] 23)) := (Below.refl _ _).alloc (Nat.le_refl _) _
    replace c1 := bkeep hb5 c1; replace c2 := bkeep hb5 c2; replace HB := bt HB hb5; clear hb5
    go_wp2_with fail
    generalize wa.alloc (.cells #[.int .i64 x, .int .i64 y] 23) = Wa at *
    refine (rbump_of HX.out HY.out HE.out _ HA.out.1 HA.out.2.1 HA.out.2.2).mono ?_
    rintro e wb ⟨rfl, hb5⟩
    replace c1 := bkeep hb5 c1; replace c2 := bkeep hb5 c2; replace c3 := bkeep hb5 c3; replace c4 := bkeep hb5 c4; replace HB := bt HB hb5; clear hb5
    obtain ⟨c5, c6⟩ := held2 (w := wb) (a := x) (b := y) 23
    have hb5 : Below wb.heap.size wb (wb.alloc (.cells #[.int .i64 x, .int .i64 y] 23)) := (Below.refl _ _).alloc (Nat.le_refl _) _
    replace c1 := bkeep hb5 c1; replace c2 := bkeep hb5 c2; replace c3 := bkeep hb5 c3; replace c4 := bkeep hb5 c4; replace HB := bt HB hb5; clear hb5
    go_wp2_with fail
    generalize wb.alloc (.cells #[.int .i64 x, .int .i64 y] 23) = Wb at *
    replace HB := HB.drew
    refine wp_region_held_drew (S := (fun w' => (w'.cell? ⟨w.heap.size, 0, none⟩ = some (.int .i64 a0) ∧ w'.cell? ⟨w.heap.size, 1, none⟩ = some (.int .i64 a1)) ∧ (w'.cell? ⟨wa.heap.size, 0, none⟩ = some (.int .i64 x) ∧ w'.cell? ⟨wa.heap.size, 1, none⟩ = some (.int .i64 y)) ∧ (w'.cell? ⟨wb.heap.size, 0, none⟩ = some (.int .i64 x) ∧ w'.cell? ⟨wb.heap.size, 1, none⟩ = some (.int .i64 y)))) (by kernel_rfl) ?_ (fun hHeld => ?_)
    · exact ⟨⟨c1, c2⟩, ⟨c3, c4⟩, c5, c6⟩
    first | (refine take_w (i := 0) (d := (some 27)) (v := ?_) (by rfl) (by kernel_rfl) (by kernel_rfl) (by kernel_rfl) (fun _ _ _ h => h) (by rfl) ?_ (by assumption) ?_; rotate_left; (intro o ho; simp only [List.getElem?_toArray, List.getElem?_cons_succ, List.getElem?_cons_zero, Option.some.injEq] at ho; subst ho; intro w hSw; (try dsimp only at hSw); go_simp); (try with_reducible rfl)) | (refine take_n (i := 0) (d := (some 27)) (by rfl) (by kernel_rfl) (by kernel_rfl) (by kernel_rfl) (fun _ _ _ h => h) (by rfl) (by assumption) ?_)
    try simp only [Act.put, List.setIfInBounds_toArray, List.set_cons_zero, List.set_cons_succ]
    first | (refine take_w (i := 1) (d := (some 28)) (v := ?_) (by rfl) (by kernel_rfl) (by kernel_rfl) (by kernel_rfl) (fun _ _ _ h => h) (by rfl) ?_ (by assumption) ?_; rotate_left; (intro o ho; simp only [List.getElem?_toArray, List.getElem?_cons_succ, List.getElem?_cons_zero, Option.some.injEq] at ho; subst ho; intro w hSw; (try dsimp only at hSw); go_simp); (try with_reducible rfl)) | (refine take_n (i := 1) (d := (some 28)) (by rfl) (by kernel_rfl) (by kernel_rfl) (by kernel_rfl) (fun _ _ _ h => h) (by rfl) (by assumption) ?_)
    try simp only [Act.put, List.setIfInBounds_toArray, List.set_cons_zero, List.set_cons_succ]
    first | (refine take_w (i := 2) (d := (some 29)) (v := ?_) (by rfl) (by kernel_rfl) (by kernel_rfl) (by kernel_rfl) (fun _ _ _ h => h) (by rfl) ?_ (by assumption) ?_; rotate_left; (intro o ho; simp only [List.getElem?_toArray, List.getElem?_cons_succ, List.getElem?_cons_zero, Option.some.injEq] at ho; subst ho; intro w hSw; (try dsimp only at hSw); go_simp); (try with_reducible rfl)) | (refine take_n (i := 2) (d := (some 29)) (by rfl) (by kernel_rfl) (by kernel_rfl) (by kernel_rfl) (fun _ _ _ h => h) (by rfl) (by assumption) ?_)
    try simp only [Act.put, List.setIfInBounds_toArray, List.set_cons_zero, List.set_cons_succ]
    first | (refine take_w (i := 3) (d := (some 30)) (v := ?_) (by rfl) (by kernel_rfl) (by kernel_rfl) (by kernel_rfl) (fun _ _ _ h => h) (by rfl) ?_ (by assumption) ?_; rotate_left; (intro o ho; simp only [List.getElem?_toArray, List.getElem?_cons_succ, List.getElem?_cons_zero, Option.some.injEq] at ho; subst ho; intro w hSw; (try dsimp only at hSw); go_simp); (try with_reducible rfl)) | (refine take_n (i := 3) (d := (some 30)) (by rfl) (by kernel_rfl) (by kernel_rfl) (by kernel_rfl) (fun _ _ _ h => h) (by rfl) (by assumption) ?_)
    try simp only [Act.put, List.setIfInBounds_toArray, List.set_cons_zero, List.set_cons_succ]
    first | (refine take_w (i := 4) (d := (some 31)) (v := ?_) (by rfl) (by kernel_rfl) (by kernel_rfl) (by kernel_rfl) (fun _ _ _ h => h) (by rfl) ?_ (by assumption) ?_; rotate_left; (intro o ho; simp only [List.getElem?_toArray, List.getElem?_cons_succ, List.getElem?_cons_zero, Option.some.injEq] at ho; subst ho; intro w hSw; (try dsimp only at hSw); go_simp); (try with_reducible rfl)) | (refine take_n (i := 4) (d := (some 31)) (by rfl) (by kernel_rfl) (by kernel_rfl) (by kernel_rfl) (fun _ _ _ h => h) (by rfl) (by assumption) ?_)
    try simp only [Act.put, List.setIfInBounds_toArray, List.set_cons_zero, List.set_cons_succ]
    first | (refine take_w (i := 5) (d := (some 32)) (v := ?_) (by rfl) (by kernel_rfl) (by kernel_rfl) (by kernel_rfl) (fun _ _ _ h => h) (by rfl) ?_ (by assumption) ?_; rotate_left; (intro o ho; simp only [List.getElem?_toArray, List.getElem?_cons_succ, List.getElem?_cons_zero, Option.some.injEq] at ho; subst ho; intro w hSw; (try dsimp only at hSw); go_simp); (try with_reducible rfl)) | (refine take_n (i := 5) (d := (some 32)) (by rfl) (by kernel_rfl) (by kernel_rfl) (by kernel_rfl) (fun _ _ _ h => h) (by rfl) (by assumption) ?_)
    try simp only [Act.put, List.setIfInBounds_toArray, List.set_cons_zero, List.set_cons_succ]
    first | (refine take_w (i := 6) (d := (some 33)) (v := ?_) (by rfl) (by kernel_rfl) (by kernel_rfl) (by kernel_rfl) (fun _ _ _ h => h) (by rfl) ?_ (by assumption) ?_; rotate_left; (intro o ho; simp only [List.getElem?_toArray, List.getElem?_cons_succ, List.getElem?_cons_zero, Option.some.injEq] at ho; subst ho; intro w hSw; (try dsimp only at hSw); go_simp); (try with_reducible rfl)) | (refine take_n (i := 6) (d := (some 33)) (by rfl) (by kernel_rfl) (by kernel_rfl) (by kernel_rfl) (fun _ _ _ h => h) (by rfl) (by assumption) ?_)
    try simp only [Act.put, List.setIfInBounds_toArray, List.set_cons_zero, List.set_cons_succ]
    first | (refine take_w (i := 7) (d := (some 34)) (v := ?_) (by rfl) (by kernel_rfl) (by kernel_rfl) (by kernel_rfl) (fun _ _ _ h => h) (by rfl) ?_ (by assumption) ?_; rotate_left; (intro o ho; simp only [List.getElem?_toArray, List.getElem?_cons_succ, List.getElem?_cons_zero, Option.some.injEq] at ho; subst ho; intro w hSw; (try dsimp only at hSw); go_simp); (try with_reducible rfl)) | (refine take_n (i := 7) (d := (some 34)) (by rfl) (by kernel_rfl) (by kernel_rfl) (by kernel_rfl) (fun _ _ _ h => h) (by rfl) (by assumption) ?_)
    try simp only [Act.put, List.setIfInBounds_toArray, List.set_cons_zero, List.set_cons_succ]
    first | (refine take_w (i := 8) (d := (some 35)) (v := ?_) (by rfl) (by kernel_rfl) (by kernel_rfl) (by kernel_rfl) (fun _ _ _ h => h) (by rfl) ?_ (by assumption) ?_; rotate_left; (intro o ho; simp only [List.getElem?_toArray, List.getElem?_cons_succ, List.getElem?_cons_zero, Option.some.injEq] at ho; subst ho; intro w hSw; (try dsimp only at hSw); go_simp); (try with_reducible rfl)) | (refine take_n (i := 8) (d := (some 35)) (by rfl) (by kernel_rfl) (by kernel_rfl) (by kernel_rfl) (fun _ _ _ h => h) (by rfl) (by assumption) ?_)
    try simp only [Act.put, List.setIfInBounds_toArray, List.set_cons_zero, List.set_cons_succ]
    first | (refine take_w (i := 9) (d := (some 36)) (v := ?_) (by rfl) (by kernel_rfl) (by kernel_rfl) (by kernel_rfl) (fun _ _ _ h => h) (by rfl) ?_ (by assumption) ?_; rotate_left; (intro o ho; simp only [List.getElem?_toArray, List.getElem?_cons_succ, List.getElem?_cons_zero, Option.some.injEq] at ho; subst ho; intro w hSw; (try dsimp only at hSw); go_simp); (try with_reducible rfl)) | (refine take_n (i := 9) (d := (some 36)) (by rfl) (by kernel_rfl) (by kernel_rfl) (by kernel_rfl) (fun _ _ _ h => h) (by rfl) (by assumption) ?_)
    try simp only [Act.put, List.setIfInBounds_toArray, List.set_cons_zero, List.set_cons_succ]
    first | (refine take_w (i := 10) (d := (some 37)) (v := ?_) (by rfl) (by kernel_rfl) (by kernel_rfl) (by kernel_rfl) (fun _ _ _ h => h) (by rfl) ?_ (by assumption) ?_; rotate_left; (intro o ho; simp only [List.getElem?_toArray, List.getElem?_cons_succ, List.getElem?_cons_zero, Option.some.injEq] at ho; subst ho; intro w hSw; (try dsimp only at hSw); go_simp); (try with_reducible rfl)) | (refine take_n (i := 10) (d := (some 37)) (by rfl) (by kernel_rfl) (by kernel_rfl) (by kernel_rfl) (fun _ _ _ h => h) (by rfl) (by assumption) ?_)
    try simp only [Act.put, List.setIfInBounds_toArray, List.set_cons_zero, List.set_cons_succ]
    first | (refine take_w (i := 12) (d := (some 39)) (v := ?_) (by rfl) (by kernel_rfl) (by kernel_rfl) (by kernel_rfl) (fun _ _ _ h => h) (by rfl) ?_ (by assumption) ?_; rotate_left; (intro o ho; simp only [List.getElem?_toArray, List.getElem?_cons_succ, List.getElem?_cons_zero, Option.some.injEq] at ho; subst ho; intro w hSw; (try dsimp only at hSw); go_simp); (try with_reducible rfl)) | (refine take_n (i := 12) (d := (some 39)) (by rfl) (by kernel_rfl) (by kernel_rfl) (by kernel_rfl) (fun _ _ _ h => h) (by rfl) (by assumption) ?_)
    try simp only [Act.put, List.setIfInBounds_toArray, List.set_cons_zero, List.set_cons_succ]
    first | (refine take_w (i := 13) (d := (some 40)) (v := ?_) (by rfl) (by kernel_rfl) (by kernel_rfl) (by kernel_rfl) (fun _ _ _ h => h) (by rfl) ?_ (by assumption) ?_; rotate_left; (intro o ho; simp only [List.getElem?_toArray, List.getElem?_cons_succ, List.getElem?_cons_zero, Option.some.injEq] at ho; subst ho; intro w hSw; (try dsimp only at hSw); go_simp); (try with_reducible rfl)) | (refine take_n (i := 13) (d := (some 40)) (by rfl) (by kernel_rfl) (by kernel_rfl) (by kernel_rfl) (fun _ _ _ h => h) (by rfl) (by assumption) ?_)
    try simp only [Act.put, List.setIfInBounds_toArray, List.set_cons_zero, List.set_cons_succ]
    refine call_next (i := 11) (by kernel_rfl) (by rfl) ?_
    intro o ho K hK
    simp only [List.getElem?_toArray, List.getElem?_cons_succ, List.getElem?_cons_zero, Option.some.injEq] at ho
    subst ho
    go_simp
    first | (with_reducible refine hK.out _ _ ?_ (fun hHeld => ?_)) | ((first | (go_at_call 13; first | ((with_reducible refine (at_of HZ.out _).mono ?_); rintro e w5 ⟨rfl, hb5⟩; replace c1 := bkeep hb5 c1; replace c2 := bkeep hb5 c2; replace c3 := bkeep hb5 c3; replace c4 := bkeep hb5 c4; replace c5 := bkeep hb5 c5; replace c6 := bkeep hb5 c6; replace HB := bt HB hb5; clear hb5) | ((with_reducible refine (at_of HU.out _).mono ?_); rintro e w5 ⟨rfl, hb5⟩; replace c1 := bkeep hb5 c1; replace c2 := bkeep hb5 c2; replace c3 := bkeep hb5 c3; replace c4 := bkeep hb5 c4; replace c5 := bkeep hb5 c5; replace c6 := bkeep hb5 c6; replace HB := bt HB hb5; clear hb5)) | (go_at_call 14; (with_reducible refine (rat_of HZ.out _).mono ?_); rintro e w5 ⟨rfl, hb5⟩; replace c1 := bkeep hb5 c1; replace c2 := bkeep hb5 c2; replace c3 := bkeep hb5 c3; replace c4 := bkeep hb5 c4; replace c5 := bkeep hb5 c5; replace c6 := bkeep hb5 c6; replace HB := bt HB hb5; clear hb5) | (go_at_call 10; first | ((with_reducible refine (cmp_of K1.out _).mono ?_); rintro e w5 ⟨rfl, hb5⟩; replace c1 := bkeep hb5 c1; replace c2 := bkeep hb5 c2; replace c3 := bkeep hb5 c3; replace c4 := bkeep hb5 c4; replace c5 := bkeep hb5 c5; replace c6 := bkeep hb5 c6; replace HB := bt HB hb5; clear hb5) | ((with_reducible refine (cmp_of K2.out _).mono ?_); rintro e w5 ⟨rfl, hb5⟩; replace c1 := bkeep hb5 c1; replace c2 := bkeep hb5 c2; replace c3 := bkeep hb5 c3; replace c4 := bkeep hb5 c4; replace c5 := bkeep hb5 c5; replace c6 := bkeep hb5 c6; replace HB := bt HB hb5; clear hb5))); refine hK.out _ _ ?_ (fun hHeld => ?_))
    · exact ⟨⟨c1, c2⟩, ⟨c3, c4⟩, c5, c6⟩
    clear hK K
    try simp only [Act.put, List.setIfInBounds_toArray, List.set_cons_zero, List.set_cons_succ]
    refine call_next (i := 14) (by kernel_rfl) (by rfl) ?_
    intro o ho K hK
    simp only [List.getElem?_toArray, List.getElem?_cons_succ, List.getElem?_cons_zero, Option.some.injEq] at ho
    subst ho
    go_simp
    first | (with_reducible refine hK.out _ _ ?_ (fun hHeld => ?_)) | ((first | (go_at_call 13; first | ((with_reducible refine (at_of HZ.out _).mono ?_); rintro e w5 ⟨rfl, hb5⟩; replace c1 := bkeep hb5 c1; replace c2 := bkeep hb5 c2; replace c3 := bkeep hb5 c3; replace c4 := bkeep hb5 c4; replace c5 := bkeep hb5 c5; replace c6 := bkeep hb5 c6; replace HB := bt HB hb5; clear hb5) | ((with_reducible refine (at_of HU.out _).mono ?_); rintro e w5 ⟨rfl, hb5⟩; replace c1 := bkeep hb5 c1; replace c2 := bkeep hb5 c2; replace c3 := bkeep hb5 c3; replace c4 := bkeep hb5 c4; replace c5 := bkeep hb5 c5; replace c6 := bkeep hb5 c6; replace HB := bt HB hb5; clear hb5)) | (go_at_call 14; (with_reducible refine (rat_of HZ.out _).mono ?_); rintro e w5 ⟨rfl, hb5⟩; replace c1 := bkeep hb5 c1; replace c2 := bkeep hb5 c2; replace c3 := bkeep hb5 c3; replace c4 := bkeep hb5 c4; replace c5 := bkeep hb5 c5; replace c6 := bkeep hb5 c6; replace HB := bt HB hb5; clear hb5) | (go_at_call 10; first | ((with_reducible refine (cmp_of K1.out _).mono ?_); rintro e w5 ⟨rfl, hb5⟩; replace c1 := bkeep hb5 c1; replace c2 := bkeep hb5 c2; replace c3 := bkeep hb5 c3; replace c4 := bkeep hb5 c4; replace c5 := bkeep hb5 c5; replace c6 := bkeep hb5 c6; replace HB := bt HB hb5; clear hb5) | ((with_reducible refine (cmp_of K2.out _).mono ?_); rintro e w5 ⟨rfl, hb5⟩; replace c1 := bkeep hb5 c1; replace c2 := bkeep hb5 c2; replace c3 := bkeep hb5 c3; replace c4 := bkeep hb5 c4; replace c5 := bkeep hb5 c5; replace c6 := bkeep hb5 c6; replace HB := bt HB hb5; clear hb5))); refine hK.out _ _ ?_ (fun hHeld => ?_))
    · exact ⟨⟨c1, c2⟩, ⟨c3, c4⟩, c5, c6⟩
    clear hK K
    try simp only [Act.put, List.setIfInBounds_toArray, List.set_cons_zero, List.set_cons_succ]
    first | (refine take_w (i := 15) (d := (some 42)) (v := ?_) (by rfl) (by kernel_rfl) (by kernel_rfl) (by kernel_rfl) (fun _ _ _ h => h) (by rfl) ?_ (by assumption) ?_; rotate_left; (intro o ho; simp only [List.getElem?_toArray, List.getElem?_cons_succ, List.getElem?_cons_zero, Option.some.injEq] at ho; subst ho; intro w hSw; (try dsimp only at hSw); go_simp); (try with_reducible rfl)) | (refine take_n (i := 15) (d := (some 42)) (by rfl) (by kernel_rfl) (by kernel_rfl) (by kernel_rfl) (fun _ _ _ h => h) (by rfl) (by assumption) ?_)
    try simp only [Act.put, List.setIfInBounds_toArray, List.set_cons_zero, List.set_cons_succ]
    first | (refine take_w (i := 16) (d := (some 43)) (v := ?_) (by rfl) (by kernel_rfl) (by kernel_rfl) (by kernel_rfl) (fun _ _ _ h => h) (by rfl) ?_ (by assumption) ?_; rotate_left; (intro o ho; simp only [List.getElem?_toArray, List.getElem?_cons_succ, List.getElem?_cons_zero, Option.some.injEq] at ho; subst ho; intro w hSw; (try dsimp only at hSw); go_simp); (try with_reducible rfl)) | (refine take_n (i := 16) (d := (some 43)) (by rfl) (by kernel_rfl) (by kernel_rfl) (by kernel_rfl) (fun _ _ _ h => h) (by rfl) (by assumption) ?_)
    try simp only [Act.put, List.setIfInBounds_toArray, List.set_cons_zero, List.set_cons_succ]
    refine wpAnyH_done (by kernel_rfl) ?_ _
    go_wp2_with (first | (go_at_call 13; first | ((with_reducible refine (at_of HZ.out _).mono ?_); rintro e w5 ⟨rfl, hb5⟩; replace c1 := bkeep hb5 c1; replace c2 := bkeep hb5 c2; replace c3 := bkeep hb5 c3; replace c4 := bkeep hb5 c4; replace c5 := bkeep hb5 c5; replace c6 := bkeep hb5 c6; replace HB := bt HB hb5; clear hb5) | ((with_reducible refine (at_of HU.out _).mono ?_); rintro e w5 ⟨rfl, hb5⟩; replace c1 := bkeep hb5 c1; replace c2 := bkeep hb5 c2; replace c3 := bkeep hb5 c3; replace c4 := bkeep hb5 c4; replace c5 := bkeep hb5 c5; replace c6 := bkeep hb5 c6; replace HB := bt HB hb5; clear hb5)) | (go_at_call 14; (with_reducible refine (rat_of HZ.out _).mono ?_); rintro e w5 ⟨rfl, hb5⟩; replace c1 := bkeep hb5 c1; replace c2 := bkeep hb5 c2; replace c3 := bkeep hb5 c3; replace c4 := bkeep hb5 c4; replace c5 := bkeep hb5 c5; replace c6 := bkeep hb5 c6; replace HB := bt HB hb5; clear hb5) | (go_at_call 10; first | ((with_reducible refine (cmp_of K1.out _).mono ?_); rintro e w5 ⟨rfl, hb5⟩; replace c1 := bkeep hb5 c1; replace c2 := bkeep hb5 c2; replace c3 := bkeep hb5 c3; replace c4 := bkeep hb5 c4; replace c5 := bkeep hb5 c5; replace c6 := bkeep hb5 c6; replace HB := bt HB hb5; clear hb5) | ((with_reducible refine (cmp_of K2.out _).mono ?_); rintro e w5 ⟨rfl, hb5⟩; replace c1 := bkeep hb5 c1; replace c2 := bkeep hb5 c2; replace c3 := bkeep hb5 c3; replace c4 := bkeep hb5 c4; replace c5 := bkeep hb5 c5; replace c6 := bkeep hb5 c6; replace HB := bt HB hb5; clear hb5)))
    go_ret
    exact ⟨rfl, HB⟩
end Go.Proofs.Ytbikkiinheemfaa
