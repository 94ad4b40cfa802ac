/-
  Package vector: coming further, in bytes, in writing; the works of chapter 5's statements.
-/
import Derived.Test.YtemfdmbjlmiopaaVector
import Derived.Test.YtemfdmbjlmiopaaField
import Derived.Test.YtemfdmbjlmiopaaFieldRef
namespace Go.Proofs.Ytemfdmbjlmiopaa
open Go.RowKit
set_option linter.unusedVariables false
set_option linter.unusedSimpArgs false

def vputS (s : ByteArray) (a b : Int) : ByteArray := putS (putS s a 7) b 7
theorem putS_size' (s : ByteArray) (n size : Int) : (putS s n size).size ≤ s.size + 7 := by
  unfold putS
  by_cases h : fitsB n size = true
  · rw [if_pos h]
    obtain ⟨h1, h7, h0, hlt⟩ := fits_iff.1 h
    rw [ByteArray.size_append, be_size]; omega
  · rw [if_neg h]; omega
set_option maxHeartbeats 1600000 in
theorem vput_any (s : ByteArray) (a b : Int) (w : World) (ha : a ≤ 9223372036854775807) (hb : b ≤ 9223372036854775807) (hs : s.size ≤ 140737488355320) : Calls Try.prog 23 #[.string s, VV a b] w fun e w' => e = .returned (.string (vputS s a b)) ∧ Below w.heap.size w w' := by
  have HA := Lib.hid ha
  have HC := Lib.hid hb
  have HS := Lib.hid (show s.size ≤ 140737488355328 by omega)
  have h1 := putS_size' s a 7
  have HT := Lib.hid (show (putS s a 7).size ≤ 140737488355328 by omega)
  clear ha hb hs h1
  have c0 : (w.alloc (.cells #[.int .i64 a, .int .i64 b] 23)).cell? ⟨w.heap.size, 0, none⟩ = some (.int .i64 a) := by simp [go_sem]
  have c1 : (w.alloc (.cells #[.int .i64 a, .int .i64 b] 23)).cell? ⟨w.heap.size, 1, none⟩ = some (.int .i64 b) := by simp [go_sem]
  have HB : Below w.heap.size w (w.alloc (.cells #[.int .i64 a, .int .i64 b] 23)) := (Below.refl _ _).alloc (Nat.le_refl _) _
  go_enter Try.func23, Try.ntmps23
  go_wp2_with fail
  generalize w.alloc (.cells #[.int .i64 a, .int .i64 b] 23) = W at *
  replace HB := HB.drew
  go_region_held3 (fun w' => w'.cell? ⟨w.heap.size, 0, none⟩ = some (.int .i64 a) ∧ w'.cell? ⟨w.heap.size, 1, none⟩ = some (.int .i64 b)) (first | exact ⟨c0, c1⟩) (first | (go_at_call 22; first | ((with_reducible refine (put_any s a _ _ HA.out HS.out).mono ?_); rintro e w5 ⟨rfl, hb5⟩; replace c0 := bkeep hb5 c0; replace c1 := bkeep hb5 c1; replace HB := bt HB hb5) | ((with_reducible refine (put_any _ b _ _ HC.out HT.out).mono ?_); rintro e w5 ⟨rfl, hb5⟩; replace c0 := bkeep hb5 c0; replace c1 := bkeep hb5 c1; replace HB := bt HB hb5)))
  go_wp2
  go_ret
  exact ⟨rfl, HB⟩
set_option maxHeartbeats 1600000 in
theorem rvput_any (s : ByteArray) (a b : Int) (w : World) (ha : a ≤ 9223372036854775807) (hb : b ≤ 9223372036854775807) (hs : s.size ≤ 140737488355320) : Calls Try.prog 27 #[.string s, VV a b] w fun e w' => e = .returned (.string (vputS s a b)) ∧ Below w.heap.size w w' := by
  have HA := Lib.hid ha
  have HC := Lib.hid hb
  have HS := Lib.hid (show s.size ≤ 140737488355328 by omega)
  have h1 := putS_size' s a 7
  have HT := Lib.hid (show (putS s a 7).size ≤ 140737488355328 by omega)
  clear ha hb hs h1
  have c0 : (w.alloc (.cells #[.int .i64 a, .int .i64 b] 23)).cell? ⟨w.heap.size, 0, none⟩ = some (.int .i64 a) := by simp [go_sem]
  have c1 : (w.alloc (.cells #[.int .i64 a, .int .i64 b] 23)).cell? ⟨w.heap.size, 1, none⟩ = some (.int .i64 b) := by simp [go_sem]
  have HB : Below w.heap.size w (w.alloc (.cells #[.int .i64 a, .int .i64 b] 23)) := (Below.refl _ _).alloc (Nat.le_refl _) _
  go_enter Try.func27, Try.ntmps27
  go_wp2_with fail
  generalize w.alloc (.cells #[.int .i64 a, .int .i64 b] 23) = W at *
  replace HB := HB.drew
  go_region_held3 (fun w' => w'.cell? ⟨w.heap.size, 0, none⟩ = some (.int .i64 a) ∧ w'.cell? ⟨w.heap.size, 1, none⟩ = some (.int .i64 b)) (first | exact ⟨c0, c1⟩) (first | (go_at_call 26; first | ((with_reducible refine (rput_any s a _ _ HA.out HS.out).mono ?_); rintro e w5 ⟨rfl, hb5⟩; replace c0 := bkeep hb5 c0; replace c1 := bkeep hb5 c1; replace HB := bt HB hb5) | ((with_reducible refine (rput_any _ b _ _ HC.out HT.out).mono ?_); rintro e w5 ⟨rfl, hb5⟩; replace c0 := bkeep hb5 c0; replace c1 := bkeep hb5 c1; replace HB := bt HB hb5)))
  go_wp2
  go_ret
  exact ⟨rfl, HB⟩
theorem keep2 {X Y : World} (hb : Below X.heap.size X Y) {p q : Addr} {u v : Value} (h : X.cell? p = some u ∧ X.cell? q = some v) : Y.cell? p = some u ∧ Y.cell? q = some v := ⟨bkeep hb h.1, bkeep hb h.2⟩
theorem keep4 {X Y : World} (hb : Below X.heap.size X Y) {p q r s : Addr} {u v x y : Value} (h : X.cell? p = some u ∧ X.cell? q = some v ∧ X.cell? r = some x ∧ X.cell? s = some y) : Y.cell? p = some u ∧ Y.cell? q = some v ∧ Y.cell? r = some x ∧ Y.cell? s = some y := ⟨bkeep hb h.1, bkeep hb h.2.1, keep2 hb h.2.2⟩
theorem held2 {w : World} {a b : Int} (T : TypeId) : (w.alloc (.cells #[.int .i64 a, .int .i64 b] T)).cell? ⟨w.heap.size, 0, none⟩ = some (.int .i64 a) ∧ (w.alloc (.cells #[.int .i64 a, .int .i64 b] T)).cell? ⟨w.heap.size, 1, none⟩ = some (.int .i64 b) := by
  refine ⟨?_, ?_⟩ <;> simp [go_sem]
/-! ### the reference -/
end Go.Proofs.Ytemfdmbjlmiopaa
