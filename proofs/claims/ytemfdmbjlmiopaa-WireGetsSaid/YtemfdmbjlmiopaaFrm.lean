/-
  Frames as bytes (chapter 25): who is newer, and numbers that may be.
-/
import Derived.Test.YtemfdmbjlmiopaaFrmPlain
import Derived.Test.YtemfdmbjlmiopaaWire
import Derived.BigQuiet
namespace Go.Proofs.Ytemfdmbjlmiopaa
open Go.RowKit
set_option linter.unusedVariables false
set_option linter.unusedSimpArgs false
def newB (a b c d : Int) : Bool := if a = c then decide (d < b) else decide (c < a)
theorem held2i {w : World} {a b : Int} (T : TypeId) : let W := w.alloc (.cells #[.int .i64 a, .int .i64 b] T)
    W.cell? ⟨w.heap.size, 0, none⟩ = some (.int .i64 a) ∧ W.cell? ⟨w.heap.size, 1, none⟩ = some (.int .i64 b) := by simp [go_sem]
theorem newer_any (a b c d : Int) (w : World) : Calls Try.prog 19 #[.agg #[.int .i64 a, .int .i64 b], .agg #[.int .i64 c, .int .i64 d]] w fun e w' => e = .returned (.bool (newB a b c d)) ∧ Below w.heap.size w w' := by
  by_cases h : a = c
  · subst h
    have hf : newB a b a d = decide (d < b) := if_pos rfl
    rw [hf]
    clear hf
    have m1 : (a == a) = true := by simp
    have m2 : (a != a) = false := by simp
    go_enter Try.func19, Try.ntmps19
    go_wp2
    go_ret
    exact ⟨rfl, ((Below.refl _ _).alloc (Nat.le_refl _) _).alloc (by simp) _⟩
  · have hf : newB a b c d = decide (c < a) := if_neg h
    rw [hf]
    clear hf
    have m1 : (a == c) = false := beq_eq_false_iff_ne.2 h
    have m2 : (a != c) = true := bne_iff_ne.2 h
    clear h
    go_enter Try.func19, Try.ntmps19
    go_wp2
    go_ret
    exact ⟨rfl, ((Below.refl _ _).alloc (Nat.le_refl _) _).alloc (by simp) _⟩
theorem rnewer_any (a b c d : Int) (w : World) : Calls Try.prog 20 #[.agg #[.int .i64 a, .int .i64 b], .agg #[.int .i64 c, .int .i64 d]] w fun e w' => e = .returned (.bool (newB a b c d)) ∧ Below w.heap.size w w' := by
  by_cases h : a = c
  · subst h
    have hf : newB a b a d = decide (d < b) := if_pos rfl
    rw [hf]
    clear hf
    have m1 : (a == a) = true := by simp
    have m3 : decide (a < a) = false := decide_eq_false (by omega)
    go_enter Try.func20, Try.ntmps20
    go_wp2
    go_ret
    exact ⟨rfl, ((Below.refl _ _).alloc (Nat.le_refl _) _).alloc (by simp) _⟩
  · have hf : newB a b c d = decide (c < a) := if_neg h
    rw [hf]
    clear hf
    have m1 : (a == c) = false := beq_eq_false_iff_ne.2 h
    clear h
    by_cases h2 : c < a
    · have m2 : decide (c < a) = true := decide_eq_true h2
      clear h2
      go_enter Try.func20, Try.ntmps20
      go_wp2
      go_ret
      exact ⟨by rw [m2]; rfl, ((Below.refl _ _).alloc (Nat.le_refl _) _).alloc (by simp) _⟩
    · have m2 : decide (c < a) = false := decide_eq_false h2
      clear h2
      go_enter Try.func20, Try.ntmps20
      go_wp2
      go_ret
      exact ⟨by rw [m2]; rfl, ((Below.refl _ _).alloc (Nat.le_refl _) _).alloc (by simp) _⟩
def wordB (n l : Int) : Bool := decide (l ≤ n ∧ n < 4294967296)
theorem word_any (n l : Int) (w : World) : Calls Try.prog 43 #[.int .i64 n, .int .i64 l] w fun e w' => e = .returned (.bool (wordB n l)) ∧ w = w' := by
  by_cases h1 : l ≤ n
  · have hf : decide (n < 4294967296) = wordB n l := by simp [wordB, h1]
    have hd : decide (n ≥ l) = true := decide_eq_true h1
    have hd2 : decide (l ≤ n) = true := decide_eq_true h1
    rw [← hf]
    clear hf
    go_enter Try.func43, Try.ntmps43
    go_wp2
    go_ret
    exact ⟨rfl, rfl⟩
  · have hf : wordB n l = false := by simp [wordB, h1]
    have hd : decide (n ≥ l) = false := decide_eq_false h1
    have hd2 : decide (l ≤ n) = false := decide_eq_false h1
    rw [hf]
    go_enter Try.func43, Try.ntmps43
    go_wp2
    go_ret
    exact ⟨rfl, rfl⟩
theorem id_word (b t l : Int) : idB b t l = (wordB b l && wordB t l) := by
  unfold idB wordB
  by_cases h1 : l ≤ b <;> by_cases h2 : b < 4294967296 <;> by_cases h3 : l ≤ t <;> by_cases h4 : t < 4294967296 <;> simp [h1, h2, h3, h4]
theorem ident_any (b t l : Int) (w : World) : Calls Try.prog 41 #[.agg #[.int .i64 b, .int .i64 t], .int .i64 l] w fun e w' => e = .returned (.bool (idB b t l)) ∧ Below w.heap.size w w' := by
  rcases (by omega : b < l ∨ (l ≤ b ∧ 4294967296 ≤ b) ∨ (l ≤ b ∧ b < 4294967296 ∧ t < l) ∨ (l ≤ b ∧ b < 4294967296 ∧ l ≤ t)) with h | h | h | h
  · have hf : idB b t l = false := decide_eq_false (by omega)
    have d1 : decide (l ≤ b) = false := decide_eq_false (by omega)
    have d2 : decide (b ≥ l) = false := decide_eq_false (by omega)
    clear h
    go_enter Try.func41, Try.ntmps41
    go_wp2
    go_ret
    exact ⟨by rw [hf]; rfl, (Below.refl _ _).alloc (Nat.le_refl _) _⟩
  · have hf : idB b t l = false := decide_eq_false (by omega)
    have d1 : decide (l ≤ b) = true := decide_eq_true (by omega)
    have d2 : decide (b ≥ l) = true := decide_eq_true (by omega)
    have d3 : decide (b < 4294967296) = false := decide_eq_false (by omega)
    clear h
    go_enter Try.func41, Try.ntmps41
    go_wp2
    go_ret
    exact ⟨by rw [hf]; rfl, (Below.refl _ _).alloc (Nat.le_refl _) _⟩
  · have hf : idB b t l = false := decide_eq_false (by omega)
    have d1 : decide (l ≤ b) = true := decide_eq_true (by omega)
    have d2 : decide (b ≥ l) = true := decide_eq_true (by omega)
    have d3 : decide (b < 4294967296) = true := decide_eq_true (by omega)
    have d4 : decide (l ≤ t) = false := decide_eq_false (by omega)
    have d5 : decide (t ≥ l) = false := decide_eq_false (by omega)
    clear h
    go_enter Try.func41, Try.ntmps41
    go_wp2
    go_ret
    exact ⟨by rw [hf]; rfl, (Below.refl _ _).alloc (Nat.le_refl _) _⟩
  · have hf : idB b t l = decide (t < 4294967296) := by
      unfold idB
      by_cases g : t < 4294967296
      · rw [decide_eq_true g]; exact decide_eq_true (by omega)
      · rw [decide_eq_false g]; exact decide_eq_false (by omega)
    have d1 : decide (l ≤ b) = true := decide_eq_true (by omega)
    have d2 : decide (b ≥ l) = true := decide_eq_true (by omega)
    have d3 : decide (b < 4294967296) = true := decide_eq_true (by omega)
    have d4 : decide (l ≤ t) = true := decide_eq_true (by omega)
    have d5 : decide (t ≥ l) = true := decide_eq_true (by omega)
    clear h
    go_enter Try.func41, Try.ntmps41
    go_wp2
    go_ret
    exact ⟨by rw [hf]; rfl, (Below.refl _ _).alloc (Nat.le_refl _) _⟩
end Go.Proofs.Ytemfdmbjlmiopaa
