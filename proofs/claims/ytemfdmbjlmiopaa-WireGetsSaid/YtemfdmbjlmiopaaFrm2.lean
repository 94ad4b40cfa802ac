/-
  Frames as bytes (chapter 25): the program's PutFrame.
-/
import Derived.Test.YtemfdmbjlmiopaaFrm
import Derived.Test.YtemfdmbjlmiopaaDraw
import Derived.LoopN
namespace Go.Proofs.Ytemfdmbjlmiopaa
open Go.RowKit
set_option linter.unusedVariables false
set_option linter.unusedSimpArgs false
def FC (W : World) (g : Nat) (f : Fr) : Prop := W.cell? ⟨g, 0, none⟩ = some (.int .i64 f.n) ∧ W.cell? ⟨g, 1, none⟩ = some (.int .i64 f.fb) ∧ W.cell? ⟨g, 2, none⟩ = some (.int .i64 f.ft) ∧ W.cell? ⟨g, 3, none⟩ = some (.int .i64 f.tb) ∧ W.cell? ⟨g, 4, none⟩ = some (.int .i64 f.tt) ∧ W.cell? ⟨g, 5, none⟩ = some (.int .i64 f.s) ∧ W.cell? ⟨g, 6, none⟩ = some (.int .i64 f.a) ∧ W.cell? ⟨g, 7, none⟩ = some (.string f.b)
theorem FC.below {W W' : World} {g : Nat} {f : Fr} (h : FC W g f) (hb : Below W.heap.size W W') : FC W' g f := ⟨bkeep hb h.1, bkeep hb h.2.1, bkeep hb h.2.2.1, bkeep hb h.2.2.2.1, bkeep hb h.2.2.2.2.1, bkeep hb h.2.2.2.2.2.1, bkeep hb h.2.2.2.2.2.2.1, bkeep hb h.2.2.2.2.2.2.2⟩
theorem FC.new (w : World) (f : Fr) (T : TypeId) : FC (w.alloc (.cells #[.int .i64 f.n, .int .i64 f.fb, .int .i64 f.ft, .int .i64 f.tb, .int .i64 f.tt, .int .i64 f.s, .int .i64 f.a, .string f.b] T)) w.heap.size f := by
  unfold FC
  refine ⟨?_, ?_, ?_, ?_, ?_, ?_, ?_, ?_⟩ <;> simp [go_sem]
theorem FC.lt {W : World} {g : Nat} {f : Fr} (h : FC W g f) : g < W.heap.size := World.block_lt_of_cell? W _ h.1
theorem fput_bad {f : Fr} {x : Int} (h : fchk f = x) (hx : x ≠ 0) : fputS f = ⟨#[]⟩ ∧ fputE f = x := by
  have h0 : ¬ fchk f = 0 := by rw [h]; exact hx
  exact ⟨if_neg h0, (if_neg h0).trans h⟩
theorem fput_good {f : Fr} (h : fchk f = 0) : fputS f = sealS 9 (fhead f ++ f.b) ∧ fputE f = putE 9 (fhead f ++ f.b) := ⟨if_pos h, if_pos h⟩
theorem ftwo {f : Fr} {t : ByteArray} {x : Int} (h : fputS f = t ∧ fputE f = x) (e : Ending) (P : Prop) (h1 : e = .returned (.tuple #[.string t, .int .i64 x])) (h2 : P) : e = .returned (.tuple #[.string (fputS f), .int .i64 (fputE f)]) ∧ P := by
  obtain ⟨rfl, rfl⟩ := h; exact ⟨h1, h2⟩
/-- a frame whose numbers may not be -/
theorem fchk_rng {n fb ft tb tt s a : Int} {b : ByteArray} (h : decide (0 ≤ n ∧ n ≤ 1) = false ∨ idB fb ft 1 = false ∨ idB tb tt 0 = false ∨ cntB s = false ∨ cntB a = false) : fchk ⟨n, fb, ft, tb, tt, s, a, b⟩ = 3 := if_pos h
set_option maxHeartbeats 1600000 in
theorem wputf_rng {n fb ft tb tt s a : Int} {b : ByteArray} (w : World) (h : decide (0 ≤ n ∧ n ≤ 1) = false ∨ idB fb ft 1 = false ∨ idB tb tt 0 = false ∨ cntB s = false ∨ cntB a = false) : Calls Try.prog 15 #[FV n fb ft tb tt s a b] w fun e' w' => e' = .returned (.tuple #[.string (fputS ⟨n, fb, ft, tb, tt, s, a, b⟩), .int .i64 (fputE ⟨n, fb, ft, tb, tt, s, a, b⟩)]) ∧ Below w.heap.size w w' := by
  obtain ⟨e1, e2⟩ := fput_bad (fchk_rng (b := b) h) (by decide)
  rw [e1, e2]
  clear e1 e2
  unfold cntB at h
  cases p1 : decide (0 ≤ n ∧ n ≤ 1)
  · clear h
    have HC := Lib.hid (FC.new w ⟨n, fb, ft, tb, tt, s, a, b⟩ 45)
    have HB : Below w.heap.size w (w.alloc (.cells #[.int .i64 n, .int .i64 fb, .int .i64 ft, .int .i64 tb, .int .i64 tt, .int .i64 s, .int .i64 a, .string b] 45)) := (Below.refl _ _).alloc (Nat.le_refl _) _
    obtain ⟨c0, c1, c2, c3, c4, c5, c6, c7⟩ := id HC.out
    go_enter Try.func15, Try.ntmps15
    go_wp2_with fail
    generalize w.alloc (.cells #[.int .i64 n, .int .i64 fb, .int .i64 ft, .int .i64 tb, .int .i64 tt, .int .i64 s, .int .i64 a, .string b] 45) = W1 at *
    refine (wwithin_any _ _ _).mono ?_
    rintro e' W ⟨rfl, hW⟩
    subst hW
    rw [p1]
    go_wp2
    go_ret2
    exact ⟨rfl, HB⟩
  cases p2 : idB fb ft 1
  · clear h
    have HC := Lib.hid (FC.new w ⟨n, fb, ft, tb, tt, s, a, b⟩ 45)
    have HB : Below w.heap.size w (w.alloc (.cells #[.int .i64 n, .int .i64 fb, .int .i64 ft, .int .i64 tb, .int .i64 tt, .int .i64 s, .int .i64 a, .string b] 45)) := (Below.refl _ _).alloc (Nat.le_refl _) _
    obtain ⟨c0, c1, c2, c3, c4, c5, c6, c7⟩ := id HC.out
    go_enter Try.func15, Try.ntmps15
    go_wp2_with fail
    generalize w.alloc (.cells #[.int .i64 n, .int .i64 fb, .int .i64 ft, .int .i64 tb, .int .i64 tt, .int .i64 s, .int .i64 a, .string b] 45) = W1 at *
    refine (wwithin_any _ _ _).mono ?_
    rintro e' W ⟨rfl, hW⟩
    subst hW
    rw [p1]
    go_wp2_with fail
    refine (ident_any _ _ _ _).mono ?_
    rintro e' W ⟨rfl, hA⟩
    replace HC := Lib.hid (HC.out.below hA)
    replace HB := bt HB hA
    replace c0 := bkeep hA c0
    replace c1 := bkeep hA c1
    replace c2 := bkeep hA c2
    replace c3 := bkeep hA c3
    replace c4 := bkeep hA c4
    replace c5 := bkeep hA c5
    replace c6 := bkeep hA c6
    replace c7 := bkeep hA c7
    clear hA
    rw [p2]
    go_wp2
    go_ret2
    exact ⟨rfl, HB⟩
  cases p3 : idB tb tt 0
  · clear h
    have HC := Lib.hid (FC.new w ⟨n, fb, ft, tb, tt, s, a, b⟩ 45)
    have HB : Below w.heap.size w (w.alloc (.cells #[.int .i64 n, .int .i64 fb, .int .i64 ft, .int .i64 tb, .int .i64 tt, .int .i64 s, .int .i64 a, .string b] 45)) := (Below.refl _ _).alloc (Nat.le_refl _) _
    obtain ⟨c0, c1, c2, c3, c4, c5, c6, c7⟩ := id HC.out
    go_enter Try.func15, Try.ntmps15
    go_wp2_with fail
    generalize w.alloc (.cells #[.int .i64 n, .int .i64 fb, .int .i64 ft, .int .i64 tb, .int .i64 tt, .int .i64 s, .int .i64 a, .string b] 45) = W1 at *
    refine (wwithin_any _ _ _).mono ?_
    rintro e' W ⟨rfl, hW⟩
    subst hW
    rw [p1]
    go_wp2_with fail
    refine (ident_any _ _ _ _).mono ?_
    rintro e' W ⟨rfl, hA⟩
    replace HC := Lib.hid (HC.out.below hA)
    replace HB := bt HB hA
    replace c0 := bkeep hA c0
    replace c1 := bkeep hA c1
    replace c2 := bkeep hA c2
    replace c3 := bkeep hA c3
    replace c4 := bkeep hA c4
    replace c5 := bkeep hA c5
    replace c6 := bkeep hA c6
    replace c7 := bkeep hA c7
    clear hA
    rw [p2]
    go_wp2_with fail
    refine (ident_any _ _ _ _).mono ?_
    rintro e' W ⟨rfl, hA⟩
    replace HC := Lib.hid (HC.out.below hA)
    replace HB := bt HB hA
    replace c0 := bkeep hA c0
    replace c1 := bkeep hA c1
    replace c2 := bkeep hA c2
    replace c3 := bkeep hA c3
    replace c4 := bkeep hA c4
    replace c5 := bkeep hA c5
    replace c6 := bkeep hA c6
    replace c7 := bkeep hA c7
    clear hA
    rw [p3]
    go_wp2
    go_ret2
    exact ⟨rfl, HB⟩
  cases p4 : decide (0 ≤ s ∧ s ≤ 281474976710655)
  · clear h
    have HC := Lib.hid (FC.new w ⟨n, fb, ft, tb, tt, s, a, b⟩ 45)
    have HB : Below w.heap.size w (w.alloc (.cells #[.int .i64 n, .int .i64 fb, .int .i64 ft, .int .i64 tb, .int .i64 tt, .int .i64 s, .int .i64 a, .string b] 45)) := (Below.refl _ _).alloc (Nat.le_refl _) _
    obtain ⟨c0, c1, c2, c3, c4, c5, c6, c7⟩ := id HC.out
    go_enter Try.func15, Try.ntmps15
    go_wp2_with fail
    generalize w.alloc (.cells #[.int .i64 n, .int .i64 fb, .int .i64 ft, .int .i64 tb, .int .i64 tt, .int .i64 s, .int .i64 a, .string b] 45) = W1 at *
    refine (wwithin_any _ _ _).mono ?_
    rintro e' W ⟨rfl, hW⟩
    subst hW
    rw [p1]
    go_wp2_with fail
    refine (ident_any _ _ _ _).mono ?_
    rintro e' W ⟨rfl, hA⟩
    replace HC := Lib.hid (HC.out.below hA)
    replace HB := bt HB hA
    replace c0 := bkeep hA c0
    replace c1 := bkeep hA c1
    replace c2 := bkeep hA c2
    replace c3 := bkeep hA c3
    replace c4 := bkeep hA c4
    replace c5 := bkeep hA c5
    replace c6 := bkeep hA c6
    replace c7 := bkeep hA c7
    clear hA
    rw [p2]
    go_wp2_with fail
    refine (ident_any _ _ _ _).mono ?_
    rintro e' W ⟨rfl, hA⟩
    replace HC := Lib.hid (HC.out.below hA)
    replace HB := bt HB hA
    replace c0 := bkeep hA c0
    replace c1 := bkeep hA c1
    replace c2 := bkeep hA c2
    replace c3 := bkeep hA c3
    replace c4 := bkeep hA c4
    replace c5 := bkeep hA c5
    replace c6 := bkeep hA c6
    replace c7 := bkeep hA c7
    clear hA
    rw [p3]
    go_wp2_with fail
    refine (wwithin_any _ _ _).mono ?_
    rintro e' W ⟨rfl, hW⟩
    subst hW
    rw [p4]
    go_wp2
    go_ret2
    exact ⟨rfl, HB⟩
  cases p5 : decide (0 ≤ a ∧ a ≤ 281474976710655)
  · clear h
    have HC := Lib.hid (FC.new w ⟨n, fb, ft, tb, tt, s, a, b⟩ 45)
    have HB : Below w.heap.size w (w.alloc (.cells #[.int .i64 n, .int .i64 fb, .int .i64 ft, .int .i64 tb, .int .i64 tt, .int .i64 s, .int .i64 a, .string b] 45)) := (Below.refl _ _).alloc (Nat.le_refl _) _
    obtain ⟨c0, c1, c2, c3, c4, c5, c6, c7⟩ := id HC.out
    go_enter Try.func15, Try.ntmps15
    go_wp2_with fail
    generalize w.alloc (.cells #[.int .i64 n, .int .i64 fb, .int .i64 ft, .int .i64 tb, .int .i64 tt, .int .i64 s, .int .i64 a, .string b] 45) = W1 at *
    refine (wwithin_any _ _ _).mono ?_
    rintro e' W ⟨rfl, hW⟩
    subst hW
    rw [p1]
    go_wp2_with fail
    refine (ident_any _ _ _ _).mono ?_
    rintro e' W ⟨rfl, hA⟩
    replace HC := Lib.hid (HC.out.below hA)
    replace HB := bt HB hA
    replace c0 := bkeep hA c0
    replace c1 := bkeep hA c1
    replace c2 := bkeep hA c2
    replace c3 := bkeep hA c3
    replace c4 := bkeep hA c4
    replace c5 := bkeep hA c5
    replace c6 := bkeep hA c6
    replace c7 := bkeep hA c7
    clear hA
    rw [p2]
    go_wp2_with fail
    refine (ident_any _ _ _ _).mono ?_
    rintro e' W ⟨rfl, hA⟩
    replace HC := Lib.hid (HC.out.below hA)
    replace HB := bt HB hA
    replace c0 := bkeep hA c0
    replace c1 := bkeep hA c1
    replace c2 := bkeep hA c2
    replace c3 := bkeep hA c3
    replace c4 := bkeep hA c4
    replace c5 := bkeep hA c5
    replace c6 := bkeep hA c6
    replace c7 := bkeep hA c7
    clear hA
    rw [p3]
    go_wp2_with fail
    refine (wwithin_any _ _ _).mono ?_
    rintro e' W ⟨rfl, hW⟩
    subst hW
    rw [p4]
    go_wp2_with fail
    refine (wwithin_any _ _ _).mono ?_
    rintro e' W ⟨rfl, hW⟩
    subst hW
    rw [p5]
    go_wp2
    go_ret2
    exact ⟨rfl, HB⟩
  · rw [p1, p2, p3, p4, p5] at h
    simp at h
set_option maxHeartbeats 1600000 in
theorem wputf_form {n fb ft tb tt a : Int} {b : ByteArray} (w : World) (p1 : decide (0 ≤ n ∧ n ≤ 1) = true) (p2 : idB fb ft 1 = true) (p3 : idB tb tt 0 = true) (p5 : decide (0 ≤ a ∧ a ≤ 281474976710655) = true) (h0 : ¬ b.size = 0) : Calls Try.prog 15 #[FV n fb ft tb tt 0 a b] w fun e' w' => e' = .returned (.tuple #[.string (fputS ⟨n, fb, ft, tb, tt, 0, a, b⟩), .int .i64 (fputE ⟨n, fb, ft, tb, tt, 0, a, b⟩)]) ∧ Below w.heap.size w w' := by
  have hc : fchk ⟨n, fb, ft, tb, tt, 0, a, b⟩ = 4 := by
    unfold fchk
    rw [if_neg (by simp only [p1, p2, p3, cntB, p5]; simp), if_pos ⟨rfl, h0⟩]
  obtain ⟨e1, e2⟩ := fput_bad hc (by decide)
  rw [e1, e2]
  clear e1 e2 hc
  obtain ⟨s, hs⟩ : ∃ s : Int, s = 0 := ⟨_, rfl⟩
  have n1' : (b.toList == []) = false := by
    cases h : b.toList with
    | nil => exfalso; apply h0; have h2 := data_len b; rw [← ByteArray.toList_eq, h] at h2; exact h2.symm
    | cons a l => rfl
  have n2' : b.toList.isEmpty = false := by cases h : b.toList with
    | nil => rw [h] at n1'; cases n1'
    | cons a l => rfl
  have n3' : ¬ b.toList = [] := fun h => by rw [h] at n1'; cases n1'
  have p4 : decide (0 ≤ s ∧ s ≤ 281474976710655) = true := by rw [hs]; decide
  rw [← hs]
  have m0 : (s == 0) = true := by rw [hs]; rfl
  clear h0 hs
  have HC := Lib.hid (FC.new w ⟨n, fb, ft, tb, tt, s, a, b⟩ 45)
  have HB : Below w.heap.size w (w.alloc (.cells #[.int .i64 n, .int .i64 fb, .int .i64 ft, .int .i64 tb, .int .i64 tt, .int .i64 s, .int .i64 a, .string b] 45)) := (Below.refl _ _).alloc (Nat.le_refl _) _
  obtain ⟨c0, c1, c2, c3, c4, c5, c6, c7⟩ := id HC.out
  go_enter Try.func15, Try.ntmps15
  go_wp2_with fail
  generalize w.alloc (.cells #[.int .i64 n, .int .i64 fb, .int .i64 ft, .int .i64 tb, .int .i64 tt, .int .i64 s, .int .i64 a, .string b] 45) = W1 at *
  refine (wwithin_any _ _ _).mono ?_
  rintro e' W ⟨rfl, hW⟩
  subst hW
  rw [p1]
  go_wp2_with fail
  refine (ident_any _ _ _ _).mono ?_
  rintro e' W ⟨rfl, hA⟩
  replace HC := Lib.hid (HC.out.below hA)
  replace HB := bt HB hA
  replace c0 := bkeep hA c0
  replace c1 := bkeep hA c1
  replace c2 := bkeep hA c2
  replace c3 := bkeep hA c3
  replace c4 := bkeep hA c4
  replace c5 := bkeep hA c5
  replace c6 := bkeep hA c6
  replace c7 := bkeep hA c7
  clear hA
  rw [p2]
  go_wp2_with fail
  refine (ident_any _ _ _ _).mono ?_
  rintro e' W ⟨rfl, hA⟩
  replace HC := Lib.hid (HC.out.below hA)
  replace HB := bt HB hA
  replace c0 := bkeep hA c0
  replace c1 := bkeep hA c1
  replace c2 := bkeep hA c2
  replace c3 := bkeep hA c3
  replace c4 := bkeep hA c4
  replace c5 := bkeep hA c5
  replace c6 := bkeep hA c6
  replace c7 := bkeep hA c7
  clear hA
  rw [p3]
  go_wp2_with fail
  refine (wwithin_any _ _ _).mono ?_
  rintro e' W ⟨rfl, hW⟩
  subst hW
  rw [p4]
  go_wp2_with fail
  refine (wwithin_any _ _ _).mono ?_
  rintro e' W ⟨rfl, hW⟩
  subst hW
  rw [p5]
  go_wp2
  go_ret2
  exact ⟨rfl, HB⟩
end Go.Proofs.Ytemfdmbjlmiopaa
