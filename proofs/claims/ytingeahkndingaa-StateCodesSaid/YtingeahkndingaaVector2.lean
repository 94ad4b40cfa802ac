/-
  Package vector: coming further, in bytes, in writing; the works of chapter 5's statements.
-/
import Derived.Test.YtingeahkndingaaVector
import Derived.Test.YtingeahkndingaaField
import Derived.Test.YtingeahkndingaaFieldRef
namespace Go.Proofs.Ytingeahkndingaa
open Go.RowKit
set_option linter.unusedVariables false
set_option linter.unusedSimpArgs false

set_option maxHeartbeats 3200000 in
theorem bump_none (a b node boot : Int) (w : World) (h : ¬ (node = 0 ∨ node = 1)) : Calls Try.prog 47 #[VV a b, .int .i64 node, .int .i64 boot] w fun e w' => e = .returned (.tuple #[VV 0 0, .int .i64 3]) ∧ Below w.heap.size w w' := by
  have h0 : ¬ node = 0 := fun e => h (.inl e)
  have h1 : ¬ node = 1 := fun e => h (.inr e)
  clear h
  go_enter Try.func47, Try.ntmps47
  go_wp2_with fail
  refine (side_any _ _ _).mono ?_
  rintro e wx ⟨rfl, rfl⟩
  rw [if_neg h0, if_neg h1]
  obtain ⟨c1, c2, c3, c4⟩ := held4 (w := w) (a := a) (b := b) (c := 0) (d := 0) 23
  have HB : Below w.heap.size w ((w.alloc (.cells #[.int .i64 a, .int .i64 b] 23)).alloc (.cells #[.int .i64 0, .int .i64 0] 23)) := ((Below.refl _ _).alloc (Nat.le_refl _) _).alloc (by simp) _
  go_wp2_with fail
  exact bodyPost_ret (v := .tuple #[VV 0 0, .int .i64 3]) (by simp [results, Try.results47, go_sem, c3, c4]) rfl ⟨rfl, HB⟩

theorem bump_any (a b node boot : Int) (w : World) : Calls Try.prog 47 #[VV a b, .int .i64 node, .int .i64 boot] w fun e w' => e = .returned (.tuple #[VV (bumpA a b node boot) (bumpB a b node boot), .int .i64 (bumpE a b node boot)]) ∧ Below w.heap.size w w' := by
  by_cases hn : node = 0 ∨ node = 1
  · by_cases hb : rightB a b = false ∨ withinB boot 16777216 = false
    · obtain ⟨e1, e2, e3⟩ := bump_bad a b node boot (.inr hb)
      rw [e1, e2, e3]
      rcases hn with rfl | rfl
      · exact bump_bad0 a b boot w hb
      · exact bump_bad1 a b boot w hb
    · have hr : rightB a b = true := by cases h : rightB a b; exact absurd (.inl h) hb; rfl
      have hw : withinB boot 16777216 = true := by cases h : withinB boot 16777216; exact absurd (.inr h) hb; rfl
      rcases hn with rfl | rfl
      · exact bump_ok0 a b boot w hr hw
      · exact bump_ok1 a b boot w hr hw
  · obtain ⟨e1, e2, e3⟩ := bump_bad a b node boot (.inl hn)
    rw [e1, e2, e3]
    exact bump_none a b node boot w hn

/-! ### bytes and writing -/
def vputS (s : ByteArray) (a b : Int) : ByteArray := putS (putS s a 7) b 7
theorem putS_size' (s : ByteArray) (n size : Int) : (putS s n size).size ≤ s.size + 7 := by
  unfold putS
  by_cases h : fitsB n size = true
  · rw [if_pos h]
    obtain ⟨h1, h7, h0, hlt⟩ := fits_iff.1 h
    rw [ByteArray.size_append, be_size]; omega
  · rw [if_neg h]; omega
set_option maxHeartbeats 1600000 in
theorem vput_any (s : ByteArray) (a b : Int) (w : World) (ha : a ≤ 9223372036854775807) (hb : b ≤ 9223372036854775807) (hs : s.size ≤ 140737488355320) : Calls Try.prog 50 #[.string s, VV a b] w fun e w' => e = .returned (.string (vputS s a b)) ∧ Below w.heap.size w w' := by
  have HA := Lib.hid ha
  have HC := Lib.hid hb
  have HS := Lib.hid (show s.size ≤ 140737488355328 by omega)
  have h1 := putS_size' s a 7
  have HT := Lib.hid (show (putS s a 7).size ≤ 140737488355328 by omega)
  clear ha hb hs h1
  have c0 : (w.alloc (.cells #[.int .i64 a, .int .i64 b] 23)).cell? ⟨w.heap.size, 0, none⟩ = some (.int .i64 a) := by simp [go_sem]
  have c1 : (w.alloc (.cells #[.int .i64 a, .int .i64 b] 23)).cell? ⟨w.heap.size, 1, none⟩ = some (.int .i64 b) := by simp [go_sem]
  have HB : Below w.heap.size w (w.alloc (.cells #[.int .i64 a, .int .i64 b] 23)) := (Below.refl _ _).alloc (Nat.le_refl _) _
  go_enter Try.func50, Try.ntmps50
  go_wp2_with fail
  generalize w.alloc (.cells #[.int .i64 a, .int .i64 b] 23) = W at *
  replace HB := HB.drew
  go_region_held3 (fun w' => w'.cell? ⟨w.heap.size, 0, none⟩ = some (.int .i64 a) ∧ w'.cell? ⟨w.heap.size, 1, none⟩ = some (.int .i64 b)) (first | exact ⟨c0, c1⟩) (first | (go_at_call 33; first | ((with_reducible refine (put_any s a _ _ HA.out HS.out).mono ?_); rintro e w5 ⟨rfl, hb5⟩; replace c0 := bkeep hb5 c0; replace c1 := bkeep hb5 c1; replace HB := bt HB hb5) | ((with_reducible refine (put_any _ b _ _ HC.out HT.out).mono ?_); rintro e w5 ⟨rfl, hb5⟩; replace c0 := bkeep hb5 c0; replace c1 := bkeep hb5 c1; replace HB := bt HB hb5)))
  go_wp2
  go_ret
  exact ⟨rfl, HB⟩
set_option maxHeartbeats 1600000 in
theorem rvput_any (s : ByteArray) (a b : Int) (w : World) (ha : a ≤ 9223372036854775807) (hb : b ≤ 9223372036854775807) (hs : s.size ≤ 140737488355320) : Calls Try.prog 36 #[.string s, VV a b] w fun e w' => e = .returned (.string (vputS s a b)) ∧ Below w.heap.size w w' := by
  have HA := Lib.hid ha
  have HC := Lib.hid hb
  have HS := Lib.hid (show s.size ≤ 140737488355328 by omega)
  have h1 := putS_size' s a 7
  have HT := Lib.hid (show (putS s a 7).size ≤ 140737488355328 by omega)
  clear ha hb hs h1
  have c0 : (w.alloc (.cells #[.int .i64 a, .int .i64 b] 23)).cell? ⟨w.heap.size, 0, none⟩ = some (.int .i64 a) := by simp [go_sem]
  have c1 : (w.alloc (.cells #[.int .i64 a, .int .i64 b] 23)).cell? ⟨w.heap.size, 1, none⟩ = some (.int .i64 b) := by simp [go_sem]
  have HB : Below w.heap.size w (w.alloc (.cells #[.int .i64 a, .int .i64 b] 23)) := (Below.refl _ _).alloc (Nat.le_refl _) _
  go_enter Try.func36, Try.ntmps36
  go_wp2_with fail
  generalize w.alloc (.cells #[.int .i64 a, .int .i64 b] 23) = W at *
  replace HB := HB.drew
  go_region_held3 (fun w' => w'.cell? ⟨w.heap.size, 0, none⟩ = some (.int .i64 a) ∧ w'.cell? ⟨w.heap.size, 1, none⟩ = some (.int .i64 b)) (first | exact ⟨c0, c1⟩) (first | (go_at_call 35; first | ((with_reducible refine (rput_any s a _ _ HA.out HS.out).mono ?_); rintro e w5 ⟨rfl, hb5⟩; replace c0 := bkeep hb5 c0; replace c1 := bkeep hb5 c1; replace HB := bt HB hb5) | ((with_reducible refine (rput_any _ b _ _ HC.out HT.out).mono ?_); rintro e w5 ⟨rfl, hb5⟩; replace c0 := bkeep hb5 c0; replace c1 := bkeep hb5 c1; replace HB := bt HB hb5)))
  go_wp2
  go_ret
  exact ⟨rfl, HB⟩
theorem keep2 {X Y : World} (hb : Below X.heap.size X Y) {p q : Addr} {u v : Value} (h : X.cell? p = some u ∧ X.cell? q = some v) : Y.cell? p = some u ∧ Y.cell? q = some v := ⟨bkeep hb h.1, bkeep hb h.2⟩
theorem keep4 {X Y : World} (hb : Below X.heap.size X Y) {p q r s : Addr} {u v x y : Value} (h : X.cell? p = some u ∧ X.cell? q = some v ∧ X.cell? r = some x ∧ X.cell? s = some y) : Y.cell? p = some u ∧ Y.cell? q = some v ∧ Y.cell? r = some x ∧ Y.cell? s = some y := ⟨bkeep hb h.1, bkeep hb h.2.1, keep2 hb h.2.2⟩
theorem held2 {w : World} {a b : Int} (T : TypeId) : (w.alloc (.cells #[.int .i64 a, .int .i64 b] T)).cell? ⟨w.heap.size, 0, none⟩ = some (.int .i64 a) ∧ (w.alloc (.cells #[.int .i64 a, .int .i64 b] T)).cell? ⟨w.heap.size, 1, none⟩ = some (.int .i64 b) := by
  refine ⟨?_, ?_⟩ <;> simp [go_sem]
/-! ### the reference -/
set_option maxHeartbeats 12800000 in
theorem rbump_any (a b node boot : Int) (w : World) (ha : a ≤ 9223372036854775807) (hb : b ≤ 9223372036854775807) (ht : boot ≤ 9223372036854775807) : Calls Try.prog 32 #[VV a b, .int .i64 node, .int .i64 boot] w fun e w' => e = .returned (.tuple #[VV (bumpA a b node boot) (bumpB a b node boot), .int .i64 (bumpE a b node boot)]) ∧ Below w.heap.size w w' := by
  by_cases hn : node = 0 ∨ node = 1
  · have hn0 : decide (node < 0) = false := by rw [decide_eq_false_iff_not]; omega
    have hn1 : decide (1 < node) = false := by rw [decide_eq_false_iff_not]; omega
    have AT : (0 : Nat) = 0 := rfl
    cases hr : rightB a b
    · obtain ⟨e1, e2, e3⟩ := bump_bad a b node boot (.inr (.inl hr))
      rw [e1, e2, e3]
      clear e1 e2 e3
      obtain ⟨c1, c2, c3, c4⟩ := held4 (w := w) (a := a) (b := b) (c := 0) (d := 0) 23
      obtain ⟨f1, f3⟩ := free4 (w := w) (a := a) (b := b) (c := 0) (d := 0) 23 0
      obtain ⟨f2, f4⟩ := free4 (w := w) (a := a) (b := b) (c := 0) (d := 0) 23 1
      have HB : Below w.heap.size w ((w.alloc (.cells #[.int .i64 a, .int .i64 b] 23)).alloc (.cells #[.int .i64 0, .int .i64 0] 23)) := ((Below.refl _ _).alloc (Nat.le_refl _) _).alloc (by simp) _
      go_enter Try.func32, Try.ntmps32
      go_wp2_with fail
      generalize (w.alloc (.cells #[.int .i64 a, .int .i64 b] 23)).alloc (.cells #[.int .i64 0, .int .i64 0] 23) = W at *
      go_wp2_with (first | (go_at_call 24; (with_reducible refine (rright_any _ _ _).mono ?_); rintro e w5 ⟨rfl, hb5⟩; replace f1 := bfree hb5 c1 f1; replace f2 := bfree hb5 c2 f2; replace f3 := bfree hb5 c3 f3; replace f4 := bfree hb5 c4 f4; replace c1 := bkeep hb5 c1; replace c2 := bkeep hb5 c2; replace c3 := bkeep hb5 c3; replace c4 := bkeep hb5 c4; replace HB := bt HB hb5; clear hb5) | (go_at_call 48; (with_reducible refine (rat_any _ _ _ _).mono ?_); rintro e w5 ⟨rfl, hb5⟩; rw [AT]; replace f1 := bfree hb5 c1 f1; replace f2 := bfree hb5 c2 f2; replace f3 := bfree hb5 c3 f3; replace f4 := bfree hb5 c4 f4; replace c1 := bkeep hb5 c1; replace c2 := bkeep hb5 c2; replace c3 := bkeep hb5 c3; replace c4 := bkeep hb5 c4; replace HB := bt HB hb5; clear hb5))
      exact bodyPost_ret (v := .tuple #[VV 0 0, .int .i64 3]) (by simp [results, Try.results32, go_sem, c1, c2, c3, c4]) rfl ⟨rfl, by repeat (first | exact HB | refine Below.setCell ?_ (by simp) _)⟩
    · by_cases hw : withinB boot 16777216 = true
      · have hE := bump_vals a b node boot hn hr hw
        obtain ⟨a0, a1, b0, b1⟩ := of_decide_eq_true hr
        obtain ⟨t0, t1⟩ := of_decide_eq_true hw
        have ht0 : decide (boot < 0) = false := by rw [decide_eq_false_iff_not]; omega
        have ht1 : decide (16777216 < boot) = false := by rw [decide_eq_false_iff_not]; omega
        clear hw hn0 hn1 AT
        rcases hn with rfl | rfl
        · have AT : atZ a b 0 = a := rfl
          have hN : bumpN a b 0 boot = (if a < boot * 16777216 then boot * 16777216 else a) + 1 := rfl
          by_cases hm : a < boot * 16777216
          · rw [if_pos hm] at hN
            by_cases hl : 1125899906842624 < boot * 16777216 + 1
            · exfalso; omega
            · rw [hN, if_neg hl] at hE
              have eA : bumpA a b 0 boot = boot * 16777216 + 1 := by unfold bumpA; rw [hE, if_pos rfl, hN]; rfl
              have eB : bumpB a b 0 boot = b := by unfold bumpB; rw [hE, if_pos rfl, hN]; rfl
              rw [hE, eA, eB]
              clear hE eA eB hN
              have hmm : a + 1 < boot * 16777216 + 1 := by omega
              obtain ⟨c1, c2, c3, c4⟩ := held4 (w := w) (a := a) (b := b) (c := 0) (d := 0) 23
              obtain ⟨f1, f3⟩ := free4 (w := w) (a := a) (b := b) (c := 0) (d := 0) 23 0
              obtain ⟨f2, f4⟩ := free4 (w := w) (a := a) (b := b) (c := 0) (d := 0) 23 1
              have HB : Below w.heap.size w ((w.alloc (.cells #[.int .i64 a, .int .i64 b] 23)).alloc (.cells #[.int .i64 0, .int .i64 0] 23)) := ((Below.refl _ _).alloc (Nat.le_refl _) _).alloc (by simp) _
              go_enter Try.func32, Try.ntmps32
              go_wp2_with fail
              generalize (w.alloc (.cells #[.int .i64 a, .int .i64 b] 23)).alloc (.cells #[.int .i64 0, .int .i64 0] 23) = W at *
              go_wp2_with (first | (go_at_call 24; (with_reducible refine (rright_any _ _ _).mono ?_); rintro e w5 ⟨rfl, hb5⟩; replace f1 := bfree hb5 c1 f1; replace f2 := bfree hb5 c2 f2; replace f3 := bfree hb5 c3 f3; replace f4 := bfree hb5 c4 f4; replace c1 := bkeep hb5 c1; replace c2 := bkeep hb5 c2; replace c3 := bkeep hb5 c3; replace c4 := bkeep hb5 c4; replace HB := bt HB hb5; clear hb5) | (go_at_call 48; (with_reducible refine (rat_any _ _ _ _).mono ?_); rintro e w5 ⟨rfl, hb5⟩; rw [AT]; replace f1 := bfree hb5 c1 f1; replace f2 := bfree hb5 c2 f2; replace f3 := bfree hb5 c3 f3; replace f4 := bfree hb5 c4 f4; replace c1 := bkeep hb5 c1; replace c2 := bkeep hb5 c2; replace c3 := bkeep hb5 c3; replace c4 := bkeep hb5 c4; replace HB := bt HB hb5; clear hb5))
              exact bodyPost_ret (v := .tuple #[VV (boot * 16777216 + 1) b, .int .i64 0]) (by simp [results, Try.results32, go_sem, c1, c2, c3, c4]) rfl ⟨rfl, by repeat (first | exact HB | refine Below.setCell ?_ (by simp) _)⟩
          · rw [if_neg hm] at hN
            have hmm : ¬ a + 1 < boot * 16777216 + 1 := by omega
            by_cases hl : 1125899906842624 < a + 1
            · rw [hN, if_pos hl] at hE
              have eA : bumpA a b 0 boot = 0 := by unfold bumpA; rw [hE, if_neg (by decide)]
              have eB : bumpB a b 0 boot = 0 := by unfold bumpB; rw [hE, if_neg (by decide)]
              rw [hE, eA, eB]
              clear hE eA eB hN
              obtain ⟨c1, c2, c3, c4⟩ := held4 (w := w) (a := a) (b := b) (c := 0) (d := 0) 23
              obtain ⟨f1, f3⟩ := free4 (w := w) (a := a) (b := b) (c := 0) (d := 0) 23 0
              obtain ⟨f2, f4⟩ := free4 (w := w) (a := a) (b := b) (c := 0) (d := 0) 23 1
              have HB : Below w.heap.size w ((w.alloc (.cells #[.int .i64 a, .int .i64 b] 23)).alloc (.cells #[.int .i64 0, .int .i64 0] 23)) := ((Below.refl _ _).alloc (Nat.le_refl _) _).alloc (by simp) _
              go_enter Try.func32, Try.ntmps32
              go_wp2_with fail
              generalize (w.alloc (.cells #[.int .i64 a, .int .i64 b] 23)).alloc (.cells #[.int .i64 0, .int .i64 0] 23) = W at *
              go_wp2_with (first | (go_at_call 24; (with_reducible refine (rright_any _ _ _).mono ?_); rintro e w5 ⟨rfl, hb5⟩; replace f1 := bfree hb5 c1 f1; replace f2 := bfree hb5 c2 f2; replace f3 := bfree hb5 c3 f3; replace f4 := bfree hb5 c4 f4; replace c1 := bkeep hb5 c1; replace c2 := bkeep hb5 c2; replace c3 := bkeep hb5 c3; replace c4 := bkeep hb5 c4; replace HB := bt HB hb5; clear hb5) | (go_at_call 48; (with_reducible refine (rat_any _ _ _ _).mono ?_); rintro e w5 ⟨rfl, hb5⟩; rw [AT]; replace f1 := bfree hb5 c1 f1; replace f2 := bfree hb5 c2 f2; replace f3 := bfree hb5 c3 f3; replace f4 := bfree hb5 c4 f4; replace c1 := bkeep hb5 c1; replace c2 := bkeep hb5 c2; replace c3 := bkeep hb5 c3; replace c4 := bkeep hb5 c4; replace HB := bt HB hb5; clear hb5))
              exact bodyPost_ret (v := .tuple #[VV 0 0, .int .i64 17]) (by simp [results, Try.results32, go_sem, c1, c2, c3, c4]) rfl ⟨rfl, by repeat (first | exact HB | refine Below.setCell ?_ (by simp) _)⟩
            · rw [hN, if_neg hl] at hE
              have eA : bumpA a b 0 boot = a + 1 := by unfold bumpA; rw [hE, if_pos rfl, hN]; rfl
              have eB : bumpB a b 0 boot = b := by unfold bumpB; rw [hE, if_pos rfl, hN]; rfl
              rw [hE, eA, eB]
              clear hE eA eB hN
              obtain ⟨c1, c2, c3, c4⟩ := held4 (w := w) (a := a) (b := b) (c := 0) (d := 0) 23
              obtain ⟨f1, f3⟩ := free4 (w := w) (a := a) (b := b) (c := 0) (d := 0) 23 0
              obtain ⟨f2, f4⟩ := free4 (w := w) (a := a) (b := b) (c := 0) (d := 0) 23 1
              have HB : Below w.heap.size w ((w.alloc (.cells #[.int .i64 a, .int .i64 b] 23)).alloc (.cells #[.int .i64 0, .int .i64 0] 23)) := ((Below.refl _ _).alloc (Nat.le_refl _) _).alloc (by simp) _
              go_enter Try.func32, Try.ntmps32
              go_wp2_with fail
              generalize (w.alloc (.cells #[.int .i64 a, .int .i64 b] 23)).alloc (.cells #[.int .i64 0, .int .i64 0] 23) = W at *
              go_wp2_with (first | (go_at_call 24; (with_reducible refine (rright_any _ _ _).mono ?_); rintro e w5 ⟨rfl, hb5⟩; replace f1 := bfree hb5 c1 f1; replace f2 := bfree hb5 c2 f2; replace f3 := bfree hb5 c3 f3; replace f4 := bfree hb5 c4 f4; replace c1 := bkeep hb5 c1; replace c2 := bkeep hb5 c2; replace c3 := bkeep hb5 c3; replace c4 := bkeep hb5 c4; replace HB := bt HB hb5; clear hb5) | (go_at_call 48; (with_reducible refine (rat_any _ _ _ _).mono ?_); rintro e w5 ⟨rfl, hb5⟩; rw [AT]; replace f1 := bfree hb5 c1 f1; replace f2 := bfree hb5 c2 f2; replace f3 := bfree hb5 c3 f3; replace f4 := bfree hb5 c4 f4; replace c1 := bkeep hb5 c1; replace c2 := bkeep hb5 c2; replace c3 := bkeep hb5 c3; replace c4 := bkeep hb5 c4; replace HB := bt HB hb5; clear hb5))
              exact bodyPost_ret (v := .tuple #[VV (a + 1) b, .int .i64 0]) (by simp [results, Try.results32, go_sem, c1, c2, c3, c4]) rfl ⟨rfl, by repeat (first | exact HB | refine Below.setCell ?_ (by simp) _)⟩
        · have AT : atZ a b 1 = b := rfl
          have hN : bumpN a b 1 boot = (if b < boot * 16777216 then boot * 16777216 else b) + 1 := rfl
          by_cases hm : b < boot * 16777216
          · rw [if_pos hm] at hN
            by_cases hl : 1125899906842624 < boot * 16777216 + 1
            · exfalso; omega
            · rw [hN, if_neg hl] at hE
              have eA : bumpA a b 1 boot = a := by unfold bumpA; rw [hE, if_pos rfl, hN]; rfl
              have eB : bumpB a b 1 boot = boot * 16777216 + 1 := by unfold bumpB; rw [hE, if_pos rfl, hN]; rfl
              rw [hE, eA, eB]
              clear hE eA eB hN
              have hmm : b + 1 < boot * 16777216 + 1 := by omega
              obtain ⟨c1, c2, c3, c4⟩ := held4 (w := w) (a := a) (b := b) (c := 0) (d := 0) 23
              obtain ⟨f1, f3⟩ := free4 (w := w) (a := a) (b := b) (c := 0) (d := 0) 23 0
              obtain ⟨f2, f4⟩ := free4 (w := w) (a := a) (b := b) (c := 0) (d := 0) 23 1
              have HB : Below w.heap.size w ((w.alloc (.cells #[.int .i64 a, .int .i64 b] 23)).alloc (.cells #[.int .i64 0, .int .i64 0] 23)) := ((Below.refl _ _).alloc (Nat.le_refl _) _).alloc (by simp) _
              go_enter Try.func32, Try.ntmps32
              go_wp2_with fail
              generalize (w.alloc (.cells #[.int .i64 a, .int .i64 b] 23)).alloc (.cells #[.int .i64 0, .int .i64 0] 23) = W at *
              go_wp2_with (first | (go_at_call 24; (with_reducible refine (rright_any _ _ _).mono ?_); rintro e w5 ⟨rfl, hb5⟩; replace f1 := bfree hb5 c1 f1; replace f2 := bfree hb5 c2 f2; replace f3 := bfree hb5 c3 f3; replace f4 := bfree hb5 c4 f4; replace c1 := bkeep hb5 c1; replace c2 := bkeep hb5 c2; replace c3 := bkeep hb5 c3; replace c4 := bkeep hb5 c4; replace HB := bt HB hb5; clear hb5) | (go_at_call 48; (with_reducible refine (rat_any _ _ _ _).mono ?_); rintro e w5 ⟨rfl, hb5⟩; rw [AT]; replace f1 := bfree hb5 c1 f1; replace f2 := bfree hb5 c2 f2; replace f3 := bfree hb5 c3 f3; replace f4 := bfree hb5 c4 f4; replace c1 := bkeep hb5 c1; replace c2 := bkeep hb5 c2; replace c3 := bkeep hb5 c3; replace c4 := bkeep hb5 c4; replace HB := bt HB hb5; clear hb5))
              exact bodyPost_ret (v := .tuple #[VV a (boot * 16777216 + 1), .int .i64 0]) (by simp [results, Try.results32, go_sem, c1, c2, c3, c4]) rfl ⟨rfl, by repeat (first | exact HB | refine Below.setCell ?_ (by simp) _)⟩
          · rw [if_neg hm] at hN
            have hmm : ¬ b + 1 < boot * 16777216 + 1 := by omega
            by_cases hl : 1125899906842624 < b + 1
            · rw [hN, if_pos hl] at hE
              have eA : bumpA a b 1 boot = 0 := by unfold bumpA; rw [hE, if_neg (by decide)]
              have eB : bumpB a b 1 boot = 0 := by unfold bumpB; rw [hE, if_neg (by decide)]
              rw [hE, eA, eB]
              clear hE eA eB hN
              obtain ⟨c1, c2, c3, c4⟩ := held4 (w := w) (a := a) (b := b) (c := 0) (d := 0) 23
              obtain ⟨f1, f3⟩ := free4 (w := w) (a := a) (b := b) (c := 0) (d := 0) 23 0
              obtain ⟨f2, f4⟩ := free4 (w := w) (a := a) (b := b) (c := 0) (d := 0) 23 1
              have HB : Below w.heap.size w ((w.alloc (.cells #[.int .i64 a, .int .i64 b] 23)).alloc (.cells #[.int .i64 0, .int .i64 0] 23)) := ((Below.refl _ _).alloc (Nat.le_refl _) _).alloc (by simp) _
              go_enter Try.func32, Try.ntmps32
              go_wp2_with fail
              generalize (w.alloc (.cells #[.int .i64 a, .int .i64 b] 23)).alloc (.cells #[.int .i64 0, .int .i64 0] 23) = W at *
              go_wp2_with (first | (go_at_call 24; (with_reducible refine (rright_any _ _ _).mono ?_); rintro e w5 ⟨rfl, hb5⟩; replace f1 := bfree hb5 c1 f1; replace f2 := bfree hb5 c2 f2; replace f3 := bfree hb5 c3 f3; replace f4 := bfree hb5 c4 f4; replace c1 := bkeep hb5 c1; replace c2 := bkeep hb5 c2; replace c3 := bkeep hb5 c3; replace c4 := bkeep hb5 c4; replace HB := bt HB hb5; clear hb5) | (go_at_call 48; (with_reducible refine (rat_any _ _ _ _).mono ?_); rintro e w5 ⟨rfl, hb5⟩; rw [AT]; replace f1 := bfree hb5 c1 f1; replace f2 := bfree hb5 c2 f2; replace f3 := bfree hb5 c3 f3; replace f4 := bfree hb5 c4 f4; replace c1 := bkeep hb5 c1; replace c2 := bkeep hb5 c2; replace c3 := bkeep hb5 c3; replace c4 := bkeep hb5 c4; replace HB := bt HB hb5; clear hb5))
              exact bodyPost_ret (v := .tuple #[VV 0 0, .int .i64 17]) (by simp [results, Try.results32, go_sem, c1, c2, c3, c4]) rfl ⟨rfl, by repeat (first | exact HB | refine Below.setCell ?_ (by simp) _)⟩
            · rw [hN, if_neg hl] at hE
              have eA : bumpA a b 1 boot = a := by unfold bumpA; rw [hE, if_pos rfl, hN]; rfl
              have eB : bumpB a b 1 boot = b + 1 := by unfold bumpB; rw [hE, if_pos rfl, hN]; rfl
              rw [hE, eA, eB]
              clear hE eA eB hN
              obtain ⟨c1, c2, c3, c4⟩ := held4 (w := w) (a := a) (b := b) (c := 0) (d := 0) 23
              obtain ⟨f1, f3⟩ := free4 (w := w) (a := a) (b := b) (c := 0) (d := 0) 23 0
              obtain ⟨f2, f4⟩ := free4 (w := w) (a := a) (b := b) (c := 0) (d := 0) 23 1
              have HB : Below w.heap.size w ((w.alloc (.cells #[.int .i64 a, .int .i64 b] 23)).alloc (.cells #[.int .i64 0, .int .i64 0] 23)) := ((Below.refl _ _).alloc (Nat.le_refl _) _).alloc (by simp) _
              go_enter Try.func32, Try.ntmps32
              go_wp2_with fail
              generalize (w.alloc (.cells #[.int .i64 a, .int .i64 b] 23)).alloc (.cells #[.int .i64 0, .int .i64 0] 23) = W at *
              go_wp2_with (first | (go_at_call 24; (with_reducible refine (rright_any _ _ _).mono ?_); rintro e w5 ⟨rfl, hb5⟩; replace f1 := bfree hb5 c1 f1; replace f2 := bfree hb5 c2 f2; replace f3 := bfree hb5 c3 f3; replace f4 := bfree hb5 c4 f4; replace c1 := bkeep hb5 c1; replace c2 := bkeep hb5 c2; replace c3 := bkeep hb5 c3; replace c4 := bkeep hb5 c4; replace HB := bt HB hb5; clear hb5) | (go_at_call 48; (with_reducible refine (rat_any _ _ _ _).mono ?_); rintro e w5 ⟨rfl, hb5⟩; rw [AT]; replace f1 := bfree hb5 c1 f1; replace f2 := bfree hb5 c2 f2; replace f3 := bfree hb5 c3 f3; replace f4 := bfree hb5 c4 f4; replace c1 := bkeep hb5 c1; replace c2 := bkeep hb5 c2; replace c3 := bkeep hb5 c3; replace c4 := bkeep hb5 c4; replace HB := bt HB hb5; clear hb5))
              exact bodyPost_ret (v := .tuple #[VV a (b + 1), .int .i64 0]) (by simp [results, Try.results32, go_sem, c1, c2, c3, c4]) rfl ⟨rfl, by repeat (first | exact HB | refine Below.setCell ?_ (by simp) _)⟩
      · have hw' : withinB boot 16777216 = false := by simpa using hw
        have hwn := of_decide_eq_false hw'
        obtain ⟨e1, e2, e3⟩ := bump_bad a b node boot (.inr (.inr hw'))
        rw [e1, e2, e3]
        clear e1 e2 e3 hw hw'
        by_cases ht0 : boot < 0
        · clear hwn
          obtain ⟨c1, c2, c3, c4⟩ := held4 (w := w) (a := a) (b := b) (c := 0) (d := 0) 23
          obtain ⟨f1, f3⟩ := free4 (w := w) (a := a) (b := b) (c := 0) (d := 0) 23 0
          obtain ⟨f2, f4⟩ := free4 (w := w) (a := a) (b := b) (c := 0) (d := 0) 23 1
          have HB : Below w.heap.size w ((w.alloc (.cells #[.int .i64 a, .int .i64 b] 23)).alloc (.cells #[.int .i64 0, .int .i64 0] 23)) := ((Below.refl _ _).alloc (Nat.le_refl _) _).alloc (by simp) _
          go_enter Try.func32, Try.ntmps32
          go_wp2_with fail
          generalize (w.alloc (.cells #[.int .i64 a, .int .i64 b] 23)).alloc (.cells #[.int .i64 0, .int .i64 0] 23) = W at *
          go_wp2_with (first | (go_at_call 24; (with_reducible refine (rright_any _ _ _).mono ?_); rintro e w5 ⟨rfl, hb5⟩; replace f1 := bfree hb5 c1 f1; replace f2 := bfree hb5 c2 f2; replace f3 := bfree hb5 c3 f3; replace f4 := bfree hb5 c4 f4; replace c1 := bkeep hb5 c1; replace c2 := bkeep hb5 c2; replace c3 := bkeep hb5 c3; replace c4 := bkeep hb5 c4; replace HB := bt HB hb5; clear hb5) | (go_at_call 48; (with_reducible refine (rat_any _ _ _ _).mono ?_); rintro e w5 ⟨rfl, hb5⟩; rw [AT]; replace f1 := bfree hb5 c1 f1; replace f2 := bfree hb5 c2 f2; replace f3 := bfree hb5 c3 f3; replace f4 := bfree hb5 c4 f4; replace c1 := bkeep hb5 c1; replace c2 := bkeep hb5 c2; replace c3 := bkeep hb5 c3; replace c4 := bkeep hb5 c4; replace HB := bt HB hb5; clear hb5))
          exact bodyPost_ret (v := .tuple #[VV 0 0, .int .i64 3]) (by simp [results, Try.results32, go_sem, c1, c2, c3, c4]) rfl ⟨rfl, by repeat (first | exact HB | refine Below.setCell ?_ (by simp) _)⟩
        · have ht1 : 16777216 < boot := by omega
          clear hwn
          obtain ⟨c1, c2, c3, c4⟩ := held4 (w := w) (a := a) (b := b) (c := 0) (d := 0) 23
          obtain ⟨f1, f3⟩ := free4 (w := w) (a := a) (b := b) (c := 0) (d := 0) 23 0
          obtain ⟨f2, f4⟩ := free4 (w := w) (a := a) (b := b) (c := 0) (d := 0) 23 1
          have HB : Below w.heap.size w ((w.alloc (.cells #[.int .i64 a, .int .i64 b] 23)).alloc (.cells #[.int .i64 0, .int .i64 0] 23)) := ((Below.refl _ _).alloc (Nat.le_refl _) _).alloc (by simp) _
          go_enter Try.func32, Try.ntmps32
          go_wp2_with fail
          generalize (w.alloc (.cells #[.int .i64 a, .int .i64 b] 23)).alloc (.cells #[.int .i64 0, .int .i64 0] 23) = W at *
          go_wp2_with (first | (go_at_call 24; (with_reducible refine (rright_any _ _ _).mono ?_); rintro e w5 ⟨rfl, hb5⟩; replace f1 := bfree hb5 c1 f1; replace f2 := bfree hb5 c2 f2; replace f3 := bfree hb5 c3 f3; replace f4 := bfree hb5 c4 f4; replace c1 := bkeep hb5 c1; replace c2 := bkeep hb5 c2; replace c3 := bkeep hb5 c3; replace c4 := bkeep hb5 c4; replace HB := bt HB hb5; clear hb5) | (go_at_call 48; (with_reducible refine (rat_any _ _ _ _).mono ?_); rintro e w5 ⟨rfl, hb5⟩; rw [AT]; replace f1 := bfree hb5 c1 f1; replace f2 := bfree hb5 c2 f2; replace f3 := bfree hb5 c3 f3; replace f4 := bfree hb5 c4 f4; replace c1 := bkeep hb5 c1; replace c2 := bkeep hb5 c2; replace c3 := bkeep hb5 c3; replace c4 := bkeep hb5 c4; replace HB := bt HB hb5; clear hb5))
          exact bodyPost_ret (v := .tuple #[VV 0 0, .int .i64 3]) (by simp [results, Try.results32, go_sem, c1, c2, c3, c4]) rfl ⟨rfl, by repeat (first | exact HB | refine Below.setCell ?_ (by simp) _)⟩
  · obtain ⟨e1, e2, e3⟩ := bump_bad a b node boot (.inl hn)
    rw [e1, e2, e3]
    clear e1 e2 e3
    have AT : (0 : Nat) = 0 := rfl
    by_cases hn0 : node < 0
    · clear hn
      obtain ⟨c1, c2, c3, c4⟩ := held4 (w := w) (a := a) (b := b) (c := 0) (d := 0) 23
      obtain ⟨f1, f3⟩ := free4 (w := w) (a := a) (b := b) (c := 0) (d := 0) 23 0
      obtain ⟨f2, f4⟩ := free4 (w := w) (a := a) (b := b) (c := 0) (d := 0) 23 1
      have HB : Below w.heap.size w ((w.alloc (.cells #[.int .i64 a, .int .i64 b] 23)).alloc (.cells #[.int .i64 0, .int .i64 0] 23)) := ((Below.refl _ _).alloc (Nat.le_refl _) _).alloc (by simp) _
      go_enter Try.func32, Try.ntmps32
      go_wp2_with fail
      generalize (w.alloc (.cells #[.int .i64 a, .int .i64 b] 23)).alloc (.cells #[.int .i64 0, .int .i64 0] 23) = W at *
      go_wp2_with (first | (go_at_call 24; (with_reducible refine (rright_any _ _ _).mono ?_); rintro e w5 ⟨rfl, hb5⟩; replace f1 := bfree hb5 c1 f1; replace f2 := bfree hb5 c2 f2; replace f3 := bfree hb5 c3 f3; replace f4 := bfree hb5 c4 f4; replace c1 := bkeep hb5 c1; replace c2 := bkeep hb5 c2; replace c3 := bkeep hb5 c3; replace c4 := bkeep hb5 c4; replace HB := bt HB hb5; clear hb5) | (go_at_call 48; (with_reducible refine (rat_any _ _ _ _).mono ?_); rintro e w5 ⟨rfl, hb5⟩; rw [AT]; replace f1 := bfree hb5 c1 f1; replace f2 := bfree hb5 c2 f2; replace f3 := bfree hb5 c3 f3; replace f4 := bfree hb5 c4 f4; replace c1 := bkeep hb5 c1; replace c2 := bkeep hb5 c2; replace c3 := bkeep hb5 c3; replace c4 := bkeep hb5 c4; replace HB := bt HB hb5; clear hb5))
      exact bodyPost_ret (v := .tuple #[VV 0 0, .int .i64 3]) (by simp [results, Try.results32, go_sem, c1, c2, c3, c4]) rfl ⟨rfl, by repeat (first | exact HB | refine Below.setCell ?_ (by simp) _)⟩
    · have hn1 : 1 < node := by omega
      clear hn
      obtain ⟨c1, c2, c3, c4⟩ := held4 (w := w) (a := a) (b := b) (c := 0) (d := 0) 23
      obtain ⟨f1, f3⟩ := free4 (w := w) (a := a) (b := b) (c := 0) (d := 0) 23 0
      obtain ⟨f2, f4⟩ := free4 (w := w) (a := a) (b := b) (c := 0) (d := 0) 23 1
      have HB : Below w.heap.size w ((w.alloc (.cells #[.int .i64 a, .int .i64 b] 23)).alloc (.cells #[.int .i64 0, .int .i64 0] 23)) := ((Below.refl _ _).alloc (Nat.le_refl _) _).alloc (by simp) _
      go_enter Try.func32, Try.ntmps32
      go_wp2_with fail
      generalize (w.alloc (.cells #[.int .i64 a, .int .i64 b] 23)).alloc (.cells #[.int .i64 0, .int .i64 0] 23) = W at *
      go_wp2_with (first | (go_at_call 24; (with_reducible refine (rright_any _ _ _).mono ?_); rintro e w5 ⟨rfl, hb5⟩; replace f1 := bfree hb5 c1 f1; replace f2 := bfree hb5 c2 f2; replace f3 := bfree hb5 c3 f3; replace f4 := bfree hb5 c4 f4; replace c1 := bkeep hb5 c1; replace c2 := bkeep hb5 c2; replace c3 := bkeep hb5 c3; replace c4 := bkeep hb5 c4; replace HB := bt HB hb5; clear hb5) | (go_at_call 48; (with_reducible refine (rat_any _ _ _ _).mono ?_); rintro e w5 ⟨rfl, hb5⟩; rw [AT]; replace f1 := bfree hb5 c1 f1; replace f2 := bfree hb5 c2 f2; replace f3 := bfree hb5 c3 f3; replace f4 := bfree hb5 c4 f4; replace c1 := bkeep hb5 c1; replace c2 := bkeep hb5 c2; replace c3 := bkeep hb5 c3; replace c4 := bkeep hb5 c4; replace HB := bt HB hb5; clear hb5))
      exact bodyPost_ret (v := .tuple #[VV 0 0, .int .i64 3]) (by simp [results, Try.results32, go_sem, c1, c2, c3, c4]) rfl ⟨rfl, by repeat (first | exact HB | refine Below.setCell ?_ (by simp) _)⟩
end Go.Proofs.Ytingeahkndingaa
