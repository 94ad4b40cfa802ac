/-
  Package state (chapter 23): an operator's choice.
-/
import Derived.Test.YtingeahkndingaaState5
namespace Go.Proofs.Ytingeahkndingaa
open Go.RowKit
set_option linter.unusedVariables false
set_option linter.unusedSimpArgs false
theorem slice3 {w : World} {a b c : ByteArray} (T : TypeId) : let W := w.alloc (.cells #[.string a, .string b, .string c] T)
    W.cell? ⟨w.heap.size, 0, none⟩ = some (.string a) ∧ W.cell? ⟨w.heap.size, 1, none⟩ = some (.string b) ∧ W.cell? ⟨w.heap.size, 2, none⟩ = some (.string c) := by
  intro W
  refine ⟨?_, ?_, ?_⟩ <;> simp [W, go_sem]
set_option maxHeartbeats 12800000 in
theorem resolve_any (k a b : Int) (d : ByteArray) (p q : Int) (e : ByteArray) (r s : Int) (f : ByteArray) (node boot choice : Int) (t : ByteArray) (w : World) : Calls Try.prog 17 #[SS k a b d p q e r s f, .int .i64 node, .int .i64 boot, .int .i64 choice, .string t] w fun e' w' => e' = .returned (.tuple #[(resS ⟨k, a, b, d, ⟨p, q, e⟩, ⟨r, s, f⟩⟩ node boot choice t).v, .int .i64 (resE ⟨k, a, b, d, ⟨p, q, e⟩, ⟨r, s, f⟩⟩ node boot choice t)]) ∧ Below w.heap.size w w' := by
  have HE : resE ⟨k, a, b, d, ⟨p, q, e⟩, ⟨r, s, f⟩⟩ node boot choice t = if chkE ⟨k, a, b, d, ⟨p, q, e⟩, ⟨r, s, f⟩⟩ = 0 then (if k = 1 then (if choice < 0 ∨ 2 < choice then 3 else if choice = 2 ∧ t.size ≠ 128 then 12 else bumpE a b node boot) else 10) else chkE ⟨k, a, b, d, ⟨p, q, e⟩, ⟨r, s, f⟩⟩ := rfl
  have HS : resS ⟨k, a, b, d, ⟨p, q, e⟩, ⟨r, s, f⟩⟩ node boot choice t = if resE ⟨k, a, b, d, ⟨p, q, e⟩, ⟨r, s, f⟩⟩ node boot choice t = 0 then onS (bumpA a b node boot) (bumpB a b node boot) (resD ⟨k, a, b, d, ⟨p, q, e⟩, ⟨r, s, f⟩⟩ choice t) else st0 := rfl
  obtain ⟨E, hE⟩ : ∃ x, chkE ⟨k, a, b, d, ⟨p, q, e⟩, ⟨r, s, f⟩⟩ = x := ⟨_, rfl⟩
  have K := Lib.hid (fun w => chk_at hE w)
  rw [hE] at HE
  clear hE
  by_cases h0 : E = 0
  case neg =>
    rw [if_neg h0] at HE
    rw [HE, if_neg h0] at HS
    have HF := Lib.hid (And.intro HS HE)
    have hne : (E != 0) = true := bne_iff_ne.2 h0
    clear HE HS h0
    obtain ⟨c0, c1, c2, c3, c4, c5, c6, c7, c8, c9⟩ := held10 (w := w) (k := k) (a := a) (b := b) (d := d) (p := p) (q := q) (e := e) (r := r) (s := s) (f := f) 27
    have HB : Below w.heap.size w (w.alloc (.cells #[.int .i64 k, .int .i64 a, .int .i64 b, .string d, .int .i64 p, .int .i64 q, .string e, .int .i64 r, .int .i64 s, .string f] 27)) := (Below.refl _ _).alloc (Nat.le_refl _) _
    have hz1 : (w.alloc (.cells #[.int .i64 k, .int .i64 a, .int .i64 b, .string d, .int .i64 p, .int .i64 q, .string e, .int .i64 r, .int .i64 s, .string f] 27)).heap.size = w.heap.size + 1 := by simp
    go_enter Try.func17, Try.ntmps17
    go_wp2_with fail
    generalize w.alloc (.cells #[.int .i64 k, .int .i64 a, .int .i64 b, .string d, .int .i64 p, .int .i64 q, .string e, .int .i64 r, .int .i64 s, .string f] 27) = W1 at *
    obtain ⟨g0, g1, g2, g3, g4, g5, g6, g7, g8, g9⟩ := held10 (w := W1) (k := 0) (a := 0) (b := 0) (d := ⟨#[]⟩) (p := 0) (q := 0) (e := ⟨#[]⟩) (r := 0) (s := 0) (f := ⟨#[]⟩) 27
    obtain ⟨v0, v1, v2, v3, v4, v5, v6, v7, v8, v9⟩ := free10 (w := W1) (k := 0) (a := 0) (b := 0) (d := ⟨#[]⟩) (p := 0) (q := 0) (e := ⟨#[]⟩) (r := 0) (s := 0) (f := ⟨#[]⟩) 27
    have hA : Below W1.heap.size W1 (W1.alloc (.cells #[.int .i64 0, .int .i64 0, .int .i64 0, .string ⟨#[]⟩, .int .i64 0, .int .i64 0, .string ⟨#[]⟩, .int .i64 0, .int .i64 0, .string ⟨#[]⟩] 27)) := (Below.refl _ _).alloc (Nat.le_refl _) _
    rw [hz1] at g0 g1 g2 g3 g4 g5 g6 g7 g8 g9 v0 v1 v2 v3 v4 v5 v6 v7 v8 v9
    replace c0 := bkeep hA c0
    replace c1 := bkeep hA c1
    replace c2 := bkeep hA c2
    replace c3 := bkeep hA c3
    replace c4 := bkeep hA c4
    replace c5 := bkeep hA c5
    replace c6 := bkeep hA c6
    replace c7 := bkeep hA c7
    replace c8 := bkeep hA c8
    replace c9 := bkeep hA c9
    replace HB := bt HB hA
    clear hA hz1
    generalize W1.alloc (.cells #[.int .i64 0, .int .i64 0, .int .i64 0, .string ⟨#[]⟩, .int .i64 0, .int .i64 0, .string ⟨#[]⟩, .int .i64 0, .int .i64 0, .string ⟨#[]⟩] 27) = W2 at *
    refine (K.out _).mono ?_
    rintro e' W5 ⟨rfl, hA⟩
    replace c0 := bkeep hA c0
    replace c1 := bkeep hA c1
    replace c2 := bkeep hA c2
    replace c3 := bkeep hA c3
    replace c4 := bkeep hA c4
    replace c5 := bkeep hA c5
    replace c6 := bkeep hA c6
    replace c7 := bkeep hA c7
    replace c8 := bkeep hA c8
    replace c9 := bkeep hA c9
    replace v0 := bfree hA g0 v0
    replace v1 := bfree hA g1 v1
    replace v2 := bfree hA g2 v2
    replace v3 := bfree hA g3 v3
    replace v4 := bfree hA g4 v4
    replace v5 := bfree hA g5 v5
    replace v6 := bfree hA g6 v6
    replace v7 := bfree hA g7 v7
    replace v8 := bfree hA g8 v8
    replace v9 := bfree hA g9 v9
    replace g0 := bkeep hA g0
    replace g1 := bkeep hA g1
    replace g2 := bkeep hA g2
    replace g3 := bkeep hA g3
    replace g4 := bkeep hA g4
    replace g5 := bkeep hA g5
    replace g6 := bkeep hA g6
    replace g7 := bkeep hA g7
    replace g8 := bkeep hA g8
    replace g9 := bkeep hA g9
    replace HB := bt HB hA
    clear hA
    have hn2 := lt_ne g0
    have hn3 := fun h => hn2 (Eq.symm h)
    go_wp2
    exact bodyPost_ret (v := .tuple #[(st0).v, .int .i64 (E)]) (by simp [results, Try.results17, go_sem, g0, g1, g2, g3, g4, g5, g6, g7, g8, g9, onS, st0, hn2, hn3]) rfl ⟨by rw [HF.out.1, HF.out.2], by repeat (first | with_reducible exact HB | with_reducible refine Below.drew ?_ | with_reducible refine Below.setCell ?_ (by first | (simp; done) | (simp; omega)) _ | with_reducible refine Below.alloc ?_ (by first | (simp; done) | (simp; omega)) _)⟩
  subst h0
  rw [if_pos rfl] at HE
  by_cases h1 : k = 1
  case neg =>
    rw [if_neg h1] at HE
    rw [HE, if_neg (by decide)] at HS
    have HF := Lib.hid (And.intro HS HE)
    have hk1 : (k != 1) = true := bne_iff_ne.2 h1
    clear HE HS h1
    obtain ⟨c0, c1, c2, c3, c4, c5, c6, c7, c8, c9⟩ := held10 (w := w) (k := k) (a := a) (b := b) (d := d) (p := p) (q := q) (e := e) (r := r) (s := s) (f := f) 27
    have HB : Below w.heap.size w (w.alloc (.cells #[.int .i64 k, .int .i64 a, .int .i64 b, .string d, .int .i64 p, .int .i64 q, .string e, .int .i64 r, .int .i64 s, .string f] 27)) := (Below.refl _ _).alloc (Nat.le_refl _) _
    have hz1 : (w.alloc (.cells #[.int .i64 k, .int .i64 a, .int .i64 b, .string d, .int .i64 p, .int .i64 q, .string e, .int .i64 r, .int .i64 s, .string f] 27)).heap.size = w.heap.size + 1 := by simp
    go_enter Try.func17, Try.ntmps17
    go_wp2_with fail
    generalize w.alloc (.cells #[.int .i64 k, .int .i64 a, .int .i64 b, .string d, .int .i64 p, .int .i64 q, .string e, .int .i64 r, .int .i64 s, .string f] 27) = W1 at *
    obtain ⟨g0, g1, g2, g3, g4, g5, g6, g7, g8, g9⟩ := held10 (w := W1) (k := 0) (a := 0) (b := 0) (d := ⟨#[]⟩) (p := 0) (q := 0) (e := ⟨#[]⟩) (r := 0) (s := 0) (f := ⟨#[]⟩) 27
    obtain ⟨v0, v1, v2, v3, v4, v5, v6, v7, v8, v9⟩ := free10 (w := W1) (k := 0) (a := 0) (b := 0) (d := ⟨#[]⟩) (p := 0) (q := 0) (e := ⟨#[]⟩) (r := 0) (s := 0) (f := ⟨#[]⟩) 27
    have hA : Below W1.heap.size W1 (W1.alloc (.cells #[.int .i64 0, .int .i64 0, .int .i64 0, .string ⟨#[]⟩, .int .i64 0, .int .i64 0, .string ⟨#[]⟩, .int .i64 0, .int .i64 0, .string ⟨#[]⟩] 27)) := (Below.refl _ _).alloc (Nat.le_refl _) _
    rw [hz1] at g0 g1 g2 g3 g4 g5 g6 g7 g8 g9 v0 v1 v2 v3 v4 v5 v6 v7 v8 v9
    replace c0 := bkeep hA c0
    replace c1 := bkeep hA c1
    replace c2 := bkeep hA c2
    replace c3 := bkeep hA c3
    replace c4 := bkeep hA c4
    replace c5 := bkeep hA c5
    replace c6 := bkeep hA c6
    replace c7 := bkeep hA c7
    replace c8 := bkeep hA c8
    replace c9 := bkeep hA c9
    replace HB := bt HB hA
    clear hA hz1
    generalize W1.alloc (.cells #[.int .i64 0, .int .i64 0, .int .i64 0, .string ⟨#[]⟩, .int .i64 0, .int .i64 0, .string ⟨#[]⟩, .int .i64 0, .int .i64 0, .string ⟨#[]⟩] 27) = W2 at *
    refine (K.out _).mono ?_
    rintro e' W5 ⟨rfl, hA⟩
    replace c0 := bkeep hA c0
    replace c1 := bkeep hA c1
    replace c2 := bkeep hA c2
    replace c3 := bkeep hA c3
    replace c4 := bkeep hA c4
    replace c5 := bkeep hA c5
    replace c6 := bkeep hA c6
    replace c7 := bkeep hA c7
    replace c8 := bkeep hA c8
    replace c9 := bkeep hA c9
    replace v0 := bfree hA g0 v0
    replace v1 := bfree hA g1 v1
    replace v2 := bfree hA g2 v2
    replace v3 := bfree hA g3 v3
    replace v4 := bfree hA g4 v4
    replace v5 := bfree hA g5 v5
    replace v6 := bfree hA g6 v6
    replace v7 := bfree hA g7 v7
    replace v8 := bfree hA g8 v8
    replace v9 := bfree hA g9 v9
    replace g0 := bkeep hA g0
    replace g1 := bkeep hA g1
    replace g2 := bkeep hA g2
    replace g3 := bkeep hA g3
    replace g4 := bkeep hA g4
    replace g5 := bkeep hA g5
    replace g6 := bkeep hA g6
    replace g7 := bkeep hA g7
    replace g8 := bkeep hA g8
    replace g9 := bkeep hA g9
    replace HB := bt HB hA
    clear hA
    have hn2 := lt_ne g0
    have hn3 := fun h => hn2 (Eq.symm h)
    go_wp2
    exact bodyPost_ret (v := .tuple #[(st0).v, .int .i64 (10)]) (by simp [results, Try.results17, go_sem, g0, g1, g2, g3, g4, g5, g6, g7, g8, g9, onS, st0, hn2, hn3]) rfl ⟨by rw [HF.out.1, HF.out.2], by repeat (first | with_reducible exact HB | with_reducible refine Below.drew ?_ | with_reducible refine Below.setCell ?_ (by first | (simp; done) | (simp; omega)) _ | with_reducible refine Below.alloc ?_ (by first | (simp; done) | (simp; omega)) _)⟩
  have hk1 : (k != 1) = false := bne_eq_false_iff_eq.2 h1
  rw [if_pos h1] at HE
  clear h1
  by_cases hc : choice < 0 ∨ 2 < choice
  · rw [if_pos hc] at HE
    rw [HE, if_neg (by decide)] at HS
    have HF := Lib.hid (And.intro HS HE)
    have d0 : (choice == 0) = false := beq_eq_false_iff_ne.2 (by omega)
    have d1 : (choice == 1) = false := beq_eq_false_iff_ne.2 (by omega)
    have d2 : (choice == 2) = false := beq_eq_false_iff_ne.2 (by omega)
    clear HE HS
    rcases hc with hc | hc
    · have dl : decide (choice < 0) = true := decide_eq_true hc
      obtain ⟨c0, c1, c2, c3, c4, c5, c6, c7, c8, c9⟩ := held10 (w := w) (k := k) (a := a) (b := b) (d := d) (p := p) (q := q) (e := e) (r := r) (s := s) (f := f) 27
      have HB : Below w.heap.size w (w.alloc (.cells #[.int .i64 k, .int .i64 a, .int .i64 b, .string d, .int .i64 p, .int .i64 q, .string e, .int .i64 r, .int .i64 s, .string f] 27)) := (Below.refl _ _).alloc (Nat.le_refl _) _
      have hz1 : (w.alloc (.cells #[.int .i64 k, .int .i64 a, .int .i64 b, .string d, .int .i64 p, .int .i64 q, .string e, .int .i64 r, .int .i64 s, .string f] 27)).heap.size = w.heap.size + 1 := by simp
      go_enter Try.func17, Try.ntmps17
      go_wp2_with fail
      generalize w.alloc (.cells #[.int .i64 k, .int .i64 a, .int .i64 b, .string d, .int .i64 p, .int .i64 q, .string e, .int .i64 r, .int .i64 s, .string f] 27) = W1 at *
      obtain ⟨g0, g1, g2, g3, g4, g5, g6, g7, g8, g9⟩ := held10 (w := W1) (k := 0) (a := 0) (b := 0) (d := ⟨#[]⟩) (p := 0) (q := 0) (e := ⟨#[]⟩) (r := 0) (s := 0) (f := ⟨#[]⟩) 27
      obtain ⟨v0, v1, v2, v3, v4, v5, v6, v7, v8, v9⟩ := free10 (w := W1) (k := 0) (a := 0) (b := 0) (d := ⟨#[]⟩) (p := 0) (q := 0) (e := ⟨#[]⟩) (r := 0) (s := 0) (f := ⟨#[]⟩) 27
      have hA : Below W1.heap.size W1 (W1.alloc (.cells #[.int .i64 0, .int .i64 0, .int .i64 0, .string ⟨#[]⟩, .int .i64 0, .int .i64 0, .string ⟨#[]⟩, .int .i64 0, .int .i64 0, .string ⟨#[]⟩] 27)) := (Below.refl _ _).alloc (Nat.le_refl _) _
      rw [hz1] at g0 g1 g2 g3 g4 g5 g6 g7 g8 g9 v0 v1 v2 v3 v4 v5 v6 v7 v8 v9
      replace c0 := bkeep hA c0
      replace c1 := bkeep hA c1
      replace c2 := bkeep hA c2
      replace c3 := bkeep hA c3
      replace c4 := bkeep hA c4
      replace c5 := bkeep hA c5
      replace c6 := bkeep hA c6
      replace c7 := bkeep hA c7
      replace c8 := bkeep hA c8
      replace c9 := bkeep hA c9
      replace HB := bt HB hA
      clear hA hz1
      generalize W1.alloc (.cells #[.int .i64 0, .int .i64 0, .int .i64 0, .string ⟨#[]⟩, .int .i64 0, .int .i64 0, .string ⟨#[]⟩, .int .i64 0, .int .i64 0, .string ⟨#[]⟩] 27) = W2 at *
      refine (K.out _).mono ?_
      rintro e' W5 ⟨rfl, hA⟩
      replace c0 := bkeep hA c0
      replace c1 := bkeep hA c1
      replace c2 := bkeep hA c2
      replace c3 := bkeep hA c3
      replace c4 := bkeep hA c4
      replace c5 := bkeep hA c5
      replace c6 := bkeep hA c6
      replace c7 := bkeep hA c7
      replace c8 := bkeep hA c8
      replace c9 := bkeep hA c9
      replace v0 := bfree hA g0 v0
      replace v1 := bfree hA g1 v1
      replace v2 := bfree hA g2 v2
      replace v3 := bfree hA g3 v3
      replace v4 := bfree hA g4 v4
      replace v5 := bfree hA g5 v5
      replace v6 := bfree hA g6 v6
      replace v7 := bfree hA g7 v7
      replace v8 := bfree hA g8 v8
      replace v9 := bfree hA g9 v9
      replace g0 := bkeep hA g0
      replace g1 := bkeep hA g1
      replace g2 := bkeep hA g2
      replace g3 := bkeep hA g3
      replace g4 := bkeep hA g4
      replace g5 := bkeep hA g5
      replace g6 := bkeep hA g6
      replace g7 := bkeep hA g7
      replace g8 := bkeep hA g8
      replace g9 := bkeep hA g9
      replace HB := bt HB hA
      clear hA
      have hn2 := lt_ne g0
      have hn3 := fun h => hn2 (Eq.symm h)
      go_wp2
      exact bodyPost_ret (v := .tuple #[(st0).v, .int .i64 (3)]) (by simp [results, Try.results17, go_sem, g0, g1, g2, g3, g4, g5, g6, g7, g8, g9, onS, st0, hn2, hn3]) rfl ⟨by rw [HF.out.1, HF.out.2], by repeat (first | with_reducible exact HB | with_reducible refine Below.drew ?_ | with_reducible refine Below.setCell ?_ (by first | (simp; done) | (simp; omega)) _ | with_reducible refine Below.alloc ?_ (by first | (simp; done) | (simp; omega)) _)⟩
    · have dl : decide (choice < 0) = false := decide_eq_false (by omega)
      have dm : decide (2 < choice) = true := decide_eq_true hc
      obtain ⟨c0, c1, c2, c3, c4, c5, c6, c7, c8, c9⟩ := held10 (w := w) (k := k) (a := a) (b := b) (d := d) (p := p) (q := q) (e := e) (r := r) (s := s) (f := f) 27
      have HB : Below w.heap.size w (w.alloc (.cells #[.int .i64 k, .int .i64 a, .int .i64 b, .string d, .int .i64 p, .int .i64 q, .string e, .int .i64 r, .int .i64 s, .string f] 27)) := (Below.refl _ _).alloc (Nat.le_refl _) _
      have hz1 : (w.alloc (.cells #[.int .i64 k, .int .i64 a, .int .i64 b, .string d, .int .i64 p, .int .i64 q, .string e, .int .i64 r, .int .i64 s, .string f] 27)).heap.size = w.heap.size + 1 := by simp
      go_enter Try.func17, Try.ntmps17
      go_wp2_with fail
      generalize w.alloc (.cells #[.int .i64 k, .int .i64 a, .int .i64 b, .string d, .int .i64 p, .int .i64 q, .string e, .int .i64 r, .int .i64 s, .string f] 27) = W1 at *
      obtain ⟨g0, g1, g2, g3, g4, g5, g6, g7, g8, g9⟩ := held10 (w := W1) (k := 0) (a := 0) (b := 0) (d := ⟨#[]⟩) (p := 0) (q := 0) (e := ⟨#[]⟩) (r := 0) (s := 0) (f := ⟨#[]⟩) 27
      obtain ⟨v0, v1, v2, v3, v4, v5, v6, v7, v8, v9⟩ := free10 (w := W1) (k := 0) (a := 0) (b := 0) (d := ⟨#[]⟩) (p := 0) (q := 0) (e := ⟨#[]⟩) (r := 0) (s := 0) (f := ⟨#[]⟩) 27
      have hA : Below W1.heap.size W1 (W1.alloc (.cells #[.int .i64 0, .int .i64 0, .int .i64 0, .string ⟨#[]⟩, .int .i64 0, .int .i64 0, .string ⟨#[]⟩, .int .i64 0, .int .i64 0, .string ⟨#[]⟩] 27)) := (Below.refl _ _).alloc (Nat.le_refl _) _
      rw [hz1] at g0 g1 g2 g3 g4 g5 g6 g7 g8 g9 v0 v1 v2 v3 v4 v5 v6 v7 v8 v9
      replace c0 := bkeep hA c0
      replace c1 := bkeep hA c1
      replace c2 := bkeep hA c2
      replace c3 := bkeep hA c3
      replace c4 := bkeep hA c4
      replace c5 := bkeep hA c5
      replace c6 := bkeep hA c6
      replace c7 := bkeep hA c7
      replace c8 := bkeep hA c8
      replace c9 := bkeep hA c9
      replace HB := bt HB hA
      clear hA hz1
      generalize W1.alloc (.cells #[.int .i64 0, .int .i64 0, .int .i64 0, .string ⟨#[]⟩, .int .i64 0, .int .i64 0, .string ⟨#[]⟩, .int .i64 0, .int .i64 0, .string ⟨#[]⟩] 27) = W2 at *
      refine (K.out _).mono ?_
      rintro e' W5 ⟨rfl, hA⟩
      replace c0 := bkeep hA c0
      replace c1 := bkeep hA c1
      replace c2 := bkeep hA c2
      replace c3 := bkeep hA c3
      replace c4 := bkeep hA c4
      replace c5 := bkeep hA c5
      replace c6 := bkeep hA c6
      replace c7 := bkeep hA c7
      replace c8 := bkeep hA c8
      replace c9 := bkeep hA c9
      replace v0 := bfree hA g0 v0
      replace v1 := bfree hA g1 v1
      replace v2 := bfree hA g2 v2
      replace v3 := bfree hA g3 v3
      replace v4 := bfree hA g4 v4
      replace v5 := bfree hA g5 v5
      replace v6 := bfree hA g6 v6
      replace v7 := bfree hA g7 v7
      replace v8 := bfree hA g8 v8
      replace v9 := bfree hA g9 v9
      replace g0 := bkeep hA g0
      replace g1 := bkeep hA g1
      replace g2 := bkeep hA g2
      replace g3 := bkeep hA g3
      replace g4 := bkeep hA g4
      replace g5 := bkeep hA g5
      replace g6 := bkeep hA g6
      replace g7 := bkeep hA g7
      replace g8 := bkeep hA g8
      replace g9 := bkeep hA g9
      replace HB := bt HB hA
      clear hA
      have hn2 := lt_ne g0
      have hn3 := fun h => hn2 (Eq.symm h)
      go_wp2
      exact bodyPost_ret (v := .tuple #[(st0).v, .int .i64 (3)]) (by simp [results, Try.results17, go_sem, g0, g1, g2, g3, g4, g5, g6, g7, g8, g9, onS, st0, hn2, hn3]) rfl ⟨by rw [HF.out.1, HF.out.2], by repeat (first | with_reducible exact HB | with_reducible refine Below.drew ?_ | with_reducible refine Below.setCell ?_ (by first | (simp; done) | (simp; omega)) _ | with_reducible refine Below.alloc ?_ (by first | (simp; done) | (simp; omega)) _)⟩
  rw [if_neg hc] at HE
  have hc3 : choice = 0 ∨ choice = 1 ∨ choice = 2 := by omega
  clear hc
  by_cases hd : choice = 2 ∧ t.size ≠ 128
  · rw [if_pos hd] at HE
    rw [HE, if_neg (by decide)] at HS
    have HF := Lib.hid (And.intro HS HE)
    obtain ⟨rfl, hd⟩ := hd
    have hdz := size_ne hd
    clear HE HS hd hc3
    obtain ⟨c0, c1, c2, c3, c4, c5, c6, c7, c8, c9⟩ := held10 (w := w) (k := k) (a := a) (b := b) (d := d) (p := p) (q := q) (e := e) (r := r) (s := s) (f := f) 27
    have HB : Below w.heap.size w (w.alloc (.cells #[.int .i64 k, .int .i64 a, .int .i64 b, .string d, .int .i64 p, .int .i64 q, .string e, .int .i64 r, .int .i64 s, .string f] 27)) := (Below.refl _ _).alloc (Nat.le_refl _) _
    have hz1 : (w.alloc (.cells #[.int .i64 k, .int .i64 a, .int .i64 b, .string d, .int .i64 p, .int .i64 q, .string e, .int .i64 r, .int .i64 s, .string f] 27)).heap.size = w.heap.size + 1 := by simp
    go_enter Try.func17, Try.ntmps17
    go_wp2_with fail
    generalize w.alloc (.cells #[.int .i64 k, .int .i64 a, .int .i64 b, .string d, .int .i64 p, .int .i64 q, .string e, .int .i64 r, .int .i64 s, .string f] 27) = W1 at *
    obtain ⟨g0, g1, g2, g3, g4, g5, g6, g7, g8, g9⟩ := held10 (w := W1) (k := 0) (a := 0) (b := 0) (d := ⟨#[]⟩) (p := 0) (q := 0) (e := ⟨#[]⟩) (r := 0) (s := 0) (f := ⟨#[]⟩) 27
    obtain ⟨v0, v1, v2, v3, v4, v5, v6, v7, v8, v9⟩ := free10 (w := W1) (k := 0) (a := 0) (b := 0) (d := ⟨#[]⟩) (p := 0) (q := 0) (e := ⟨#[]⟩) (r := 0) (s := 0) (f := ⟨#[]⟩) 27
    have hA : Below W1.heap.size W1 (W1.alloc (.cells #[.int .i64 0, .int .i64 0, .int .i64 0, .string ⟨#[]⟩, .int .i64 0, .int .i64 0, .string ⟨#[]⟩, .int .i64 0, .int .i64 0, .string ⟨#[]⟩] 27)) := (Below.refl _ _).alloc (Nat.le_refl _) _
    rw [hz1] at g0 g1 g2 g3 g4 g5 g6 g7 g8 g9 v0 v1 v2 v3 v4 v5 v6 v7 v8 v9
    replace c0 := bkeep hA c0
    replace c1 := bkeep hA c1
    replace c2 := bkeep hA c2
    replace c3 := bkeep hA c3
    replace c4 := bkeep hA c4
    replace c5 := bkeep hA c5
    replace c6 := bkeep hA c6
    replace c7 := bkeep hA c7
    replace c8 := bkeep hA c8
    replace c9 := bkeep hA c9
    replace HB := bt HB hA
    clear hA hz1
    generalize W1.alloc (.cells #[.int .i64 0, .int .i64 0, .int .i64 0, .string ⟨#[]⟩, .int .i64 0, .int .i64 0, .string ⟨#[]⟩, .int .i64 0, .int .i64 0, .string ⟨#[]⟩] 27) = W2 at *
    refine (K.out _).mono ?_
    rintro e' W5 ⟨rfl, hA⟩
    replace c0 := bkeep hA c0
    replace c1 := bkeep hA c1
    replace c2 := bkeep hA c2
    replace c3 := bkeep hA c3
    replace c4 := bkeep hA c4
    replace c5 := bkeep hA c5
    replace c6 := bkeep hA c6
    replace c7 := bkeep hA c7
    replace c8 := bkeep hA c8
    replace c9 := bkeep hA c9
    replace v0 := bfree hA g0 v0
    replace v1 := bfree hA g1 v1
    replace v2 := bfree hA g2 v2
    replace v3 := bfree hA g3 v3
    replace v4 := bfree hA g4 v4
    replace v5 := bfree hA g5 v5
    replace v6 := bfree hA g6 v6
    replace v7 := bfree hA g7 v7
    replace v8 := bfree hA g8 v8
    replace v9 := bfree hA g9 v9
    replace g0 := bkeep hA g0
    replace g1 := bkeep hA g1
    replace g2 := bkeep hA g2
    replace g3 := bkeep hA g3
    replace g4 := bkeep hA g4
    replace g5 := bkeep hA g5
    replace g6 := bkeep hA g6
    replace g7 := bkeep hA g7
    replace g8 := bkeep hA g8
    replace g9 := bkeep hA g9
    replace HB := bt HB hA
    clear hA
    have hn2 := lt_ne g0
    have hn3 := fun h => hn2 (Eq.symm h)
    go_wp2
    exact bodyPost_ret (v := .tuple #[(st0).v, .int .i64 (12)]) (by simp [results, Try.results17, go_sem, g0, g1, g2, g3, g4, g5, g6, g7, g8, g9, onS, st0, hn2, hn3]) rfl ⟨by rw [HF.out.1, HF.out.2], by repeat (first | with_reducible exact HB | with_reducible refine Below.drew ?_ | with_reducible refine Below.setCell ?_ (by first | (simp; done) | (simp; omega)) _ | with_reducible refine Below.alloc ?_ (by first | (simp; done) | (simp; omega)) _)⟩
  rw [if_neg hd] at HE
  obtain ⟨x, hx⟩ : ∃ x, bumpA a b node boot = x := ⟨_, rfl⟩
  obtain ⟨y, hy⟩ : ∃ x, bumpB a b node boot = x := ⟨_, rfl⟩
  obtain ⟨E2, hE2⟩ : ∃ x, bumpE a b node boot = x := ⟨_, rfl⟩
  rw [hx, hy] at HS
  rw [hE2] at HE
  have hdz : choice = 2 → ((t.size : Int) != 128) = false := fun h => size_eq (n := 128) (by by_cases g : t.size = 128; exact g; exact absurd ⟨h, g⟩ hd)
  clear hd
  by_cases h0 : E2 = 0
  · subst h0
    rw [HE, if_pos rfl] at HS
    rcases hc3 with rfl | rfl | rfl
    · rw [show resD ⟨k, a, b, d, ⟨p, q, e⟩, ⟨r, s, f⟩⟩ 0 t = e by unfold resD; simp] at HS
      have HF := Lib.hid (And.intro HS HE)
      have C := Lib.hid (fun w => plain_ok (t := e) hx hy hE2 w)
      clear HE HS hx hy hE2 hdz
      obtain ⟨c0, c1, c2, c3, c4, c5, c6, c7, c8, c9⟩ := held10 (w := w) (k := k) (a := a) (b := b) (d := d) (p := p) (q := q) (e := e) (r := r) (s := s) (f := f) 27
      have HB : Below w.heap.size w (w.alloc (.cells #[.int .i64 k, .int .i64 a, .int .i64 b, .string d, .int .i64 p, .int .i64 q, .string e, .int .i64 r, .int .i64 s, .string f] 27)) := (Below.refl _ _).alloc (Nat.le_refl _) _
      have hz1 : (w.alloc (.cells #[.int .i64 k, .int .i64 a, .int .i64 b, .string d, .int .i64 p, .int .i64 q, .string e, .int .i64 r, .int .i64 s, .string f] 27)).heap.size = w.heap.size + 1 := by simp
      go_enter Try.func17, Try.ntmps17
      go_wp2_with fail
      generalize w.alloc (.cells #[.int .i64 k, .int .i64 a, .int .i64 b, .string d, .int .i64 p, .int .i64 q, .string e, .int .i64 r, .int .i64 s, .string f] 27) = W1 at *
      obtain ⟨g0, g1, g2, g3, g4, g5, g6, g7, g8, g9⟩ := held10 (w := W1) (k := 0) (a := 0) (b := 0) (d := ⟨#[]⟩) (p := 0) (q := 0) (e := ⟨#[]⟩) (r := 0) (s := 0) (f := ⟨#[]⟩) 27
      obtain ⟨v0, v1, v2, v3, v4, v5, v6, v7, v8, v9⟩ := free10 (w := W1) (k := 0) (a := 0) (b := 0) (d := ⟨#[]⟩) (p := 0) (q := 0) (e := ⟨#[]⟩) (r := 0) (s := 0) (f := ⟨#[]⟩) 27
      have hA : Below W1.heap.size W1 (W1.alloc (.cells #[.int .i64 0, .int .i64 0, .int .i64 0, .string ⟨#[]⟩, .int .i64 0, .int .i64 0, .string ⟨#[]⟩, .int .i64 0, .int .i64 0, .string ⟨#[]⟩] 27)) := (Below.refl _ _).alloc (Nat.le_refl _) _
      rw [hz1] at g0 g1 g2 g3 g4 g5 g6 g7 g8 g9 v0 v1 v2 v3 v4 v5 v6 v7 v8 v9
      replace c0 := bkeep hA c0
      replace c1 := bkeep hA c1
      replace c2 := bkeep hA c2
      replace c3 := bkeep hA c3
      replace c4 := bkeep hA c4
      replace c5 := bkeep hA c5
      replace c6 := bkeep hA c6
      replace c7 := bkeep hA c7
      replace c8 := bkeep hA c8
      replace c9 := bkeep hA c9
      replace HB := bt HB hA
      clear hA hz1
      generalize W1.alloc (.cells #[.int .i64 0, .int .i64 0, .int .i64 0, .string ⟨#[]⟩, .int .i64 0, .int .i64 0, .string ⟨#[]⟩, .int .i64 0, .int .i64 0, .string ⟨#[]⟩] 27) = W2 at *
      refine (K.out _).mono ?_
      rintro e' W5 ⟨rfl, hA⟩
      replace c0 := bkeep hA c0
      replace c1 := bkeep hA c1
      replace c2 := bkeep hA c2
      replace c3 := bkeep hA c3
      replace c4 := bkeep hA c4
      replace c5 := bkeep hA c5
      replace c6 := bkeep hA c6
      replace c7 := bkeep hA c7
      replace c8 := bkeep hA c8
      replace c9 := bkeep hA c9
      replace v0 := bfree hA g0 v0
      replace v1 := bfree hA g1 v1
      replace v2 := bfree hA g2 v2
      replace v3 := bfree hA g3 v3
      replace v4 := bfree hA g4 v4
      replace v5 := bfree hA g5 v5
      replace v6 := bfree hA g6 v6
      replace v7 := bfree hA g7 v7
      replace v8 := bfree hA g8 v8
      replace v9 := bfree hA g9 v9
      replace g0 := bkeep hA g0
      replace g1 := bkeep hA g1
      replace g2 := bkeep hA g2
      replace g3 := bkeep hA g3
      replace g4 := bkeep hA g4
      replace g5 := bkeep hA g5
      replace g6 := bkeep hA g6
      replace g7 := bkeep hA g7
      replace g8 := bkeep hA g8
      replace g9 := bkeep hA g9
      replace HB := bt HB hA
      clear hA
      have hn2 := lt_ne g0
      have hn3 := fun h => hn2 (Eq.symm h)
      go_wp2_with (first | (go_at_call 31; (with_reducible refine (C.out _).mono ?_); rintro e' W6 ⟨rfl, hA⟩; replace c0 := bkeep hA c0; replace c1 := bkeep hA c1; replace c2 := bkeep hA c2; replace c3 := bkeep hA c3; replace c4 := bkeep hA c4; replace c5 := bkeep hA c5; replace c6 := bkeep hA c6; replace c7 := bkeep hA c7; replace c8 := bkeep hA c8; replace c9 := bkeep hA c9; replace v0 := bfree hA g0 v0; replace v1 := bfree hA g1 v1; replace v2 := bfree hA g2 v2; replace v3 := bfree hA g3 v3; replace v4 := bfree hA g4 v4; replace v5 := bfree hA g5 v5; replace v6 := bfree hA g6 v6; replace v7 := bfree hA g7 v7; replace v8 := bfree hA g8 v8; replace v9 := bfree hA g9 v9; replace g0 := bkeep hA g0; replace g1 := bkeep hA g1; replace g2 := bkeep hA g2; replace g3 := bkeep hA g3; replace g4 := bkeep hA g4; replace g5 := bkeep hA g5; replace g6 := bkeep hA g6; replace g7 := bkeep hA g7; replace g8 := bkeep hA g8; replace g9 := bkeep hA g9; replace HB := bt HB hA; clear hA hn2 hn3; have hn2 := lt_ne g0; have hn3 := fun h => hn2 (Eq.symm h)) | (go_at_call 32; (with_reducible refine (C.out _).mono ?_); rintro e' W6 ⟨rfl, hA⟩; replace c0 := bkeep hA c0; replace c1 := bkeep hA c1; replace c2 := bkeep hA c2; replace c3 := bkeep hA c3; replace c4 := bkeep hA c4; replace c5 := bkeep hA c5; replace c6 := bkeep hA c6; replace c7 := bkeep hA c7; replace c8 := bkeep hA c8; replace c9 := bkeep hA c9; replace v0 := bfree hA g0 v0; replace v1 := bfree hA g1 v1; replace v2 := bfree hA g2 v2; replace v3 := bfree hA g3 v3; replace v4 := bfree hA g4 v4; replace v5 := bfree hA g5 v5; replace v6 := bfree hA g6 v6; replace v7 := bfree hA g7 v7; replace v8 := bfree hA g8 v8; replace v9 := bfree hA g9 v9; replace g0 := bkeep hA g0; replace g1 := bkeep hA g1; replace g2 := bkeep hA g2; replace g3 := bkeep hA g3; replace g4 := bkeep hA g4; replace g5 := bkeep hA g5; replace g6 := bkeep hA g6; replace g7 := bkeep hA g7; replace g8 := bkeep hA g8; replace g9 := bkeep hA g9; replace HB := bt HB hA; clear hA hn2 hn3; have HP6 := World.block_lt_of_cell? W6 _ g0; have hA := (Below.refl W6.heap.size W6).alloc (Nat.le_refl _) (Obj.cells #[.int .i64 x, .int .i64 y] 23); replace c0 := bkeep hA c0; replace c1 := bkeep hA c1; replace c2 := bkeep hA c2; replace c3 := bkeep hA c3; replace c4 := bkeep hA c4; replace c5 := bkeep hA c5; replace c6 := bkeep hA c6; replace c7 := bkeep hA c7; replace c8 := bkeep hA c8; replace c9 := bkeep hA c9; replace v0 := bfree hA g0 v0; replace v1 := bfree hA g1 v1; replace v2 := bfree hA g2 v2; replace v3 := bfree hA g3 v3; replace v4 := bfree hA g4 v4; replace v5 := bfree hA g5 v5; replace v6 := bfree hA g6 v6; replace v7 := bfree hA g7 v7; replace v8 := bfree hA g8 v8; replace v9 := bfree hA g9 v9; replace g0 := bkeep hA g0; replace g1 := bkeep hA g1; replace g2 := bkeep hA g2; replace g3 := bkeep hA g3; replace g4 := bkeep hA g4; replace g5 := bkeep hA g5; replace g6 := bkeep hA g6; replace g7 := bkeep hA g7; replace g8 := bkeep hA g8; replace g9 := bkeep hA g9; replace HB := bt HB hA; clear hA; have hn2 := lt_ne g0; have hn3 := fun h => hn2 (Eq.symm h)))
      exact bodyPost_ret (v := .tuple #[(onS x y e).v, .int .i64 (0)]) (by simp [results, Try.results17, go_sem, g0, g1, g2, g3, g4, g5, g6, g7, g8, g9, onS, st0, hn2, hn3]) rfl ⟨by rw [HF.out.1, HF.out.2], by repeat (first | with_reducible exact HB | with_reducible refine Below.drew ?_ | with_reducible refine Below.setCell ?_ (by first | (simp; done) | (simp; omega)) _ | with_reducible refine Below.alloc ?_ (by first | (simp; done) | (simp; omega)) _)⟩
    · rw [show resD ⟨k, a, b, d, ⟨p, q, e⟩, ⟨r, s, f⟩⟩ 1 t = f by unfold resD; simp] at HS
      have HF := Lib.hid (And.intro HS HE)
      have C := Lib.hid (fun w => plain_ok (t := f) hx hy hE2 w)
      clear HE HS hx hy hE2 hdz
      obtain ⟨c0, c1, c2, c3, c4, c5, c6, c7, c8, c9⟩ := held10 (w := w) (k := k) (a := a) (b := b) (d := d) (p := p) (q := q) (e := e) (r := r) (s := s) (f := f) 27
      have HB : Below w.heap.size w (w.alloc (.cells #[.int .i64 k, .int .i64 a, .int .i64 b, .string d, .int .i64 p, .int .i64 q, .string e, .int .i64 r, .int .i64 s, .string f] 27)) := (Below.refl _ _).alloc (Nat.le_refl _) _
      have hz1 : (w.alloc (.cells #[.int .i64 k, .int .i64 a, .int .i64 b, .string d, .int .i64 p, .int .i64 q, .string e, .int .i64 r, .int .i64 s, .string f] 27)).heap.size = w.heap.size + 1 := by simp
      go_enter Try.func17, Try.ntmps17
      go_wp2_with fail
      generalize w.alloc (.cells #[.int .i64 k, .int .i64 a, .int .i64 b, .string d, .int .i64 p, .int .i64 q, .string e, .int .i64 r, .int .i64 s, .string f] 27) = W1 at *
      obtain ⟨g0, g1, g2, g3, g4, g5, g6, g7, g8, g9⟩ := held10 (w := W1) (k := 0) (a := 0) (b := 0) (d := ⟨#[]⟩) (p := 0) (q := 0) (e := ⟨#[]⟩) (r := 0) (s := 0) (f := ⟨#[]⟩) 27
      obtain ⟨v0, v1, v2, v3, v4, v5, v6, v7, v8, v9⟩ := free10 (w := W1) (k := 0) (a := 0) (b := 0) (d := ⟨#[]⟩) (p := 0) (q := 0) (e := ⟨#[]⟩) (r := 0) (s := 0) (f := ⟨#[]⟩) 27
      have hA : Below W1.heap.size W1 (W1.alloc (.cells #[.int .i64 0, .int .i64 0, .int .i64 0, .string ⟨#[]⟩, .int .i64 0, .int .i64 0, .string ⟨#[]⟩, .int .i64 0, .int .i64 0, .string ⟨#[]⟩] 27)) := (Below.refl _ _).alloc (Nat.le_refl _) _
      rw [hz1] at g0 g1 g2 g3 g4 g5 g6 g7 g8 g9 v0 v1 v2 v3 v4 v5 v6 v7 v8 v9
      replace c0 := bkeep hA c0
      replace c1 := bkeep hA c1
      replace c2 := bkeep hA c2
      replace c3 := bkeep hA c3
      replace c4 := bkeep hA c4
      replace c5 := bkeep hA c5
      replace c6 := bkeep hA c6
      replace c7 := bkeep hA c7
      replace c8 := bkeep hA c8
      replace c9 := bkeep hA c9
      replace HB := bt HB hA
      clear hA hz1
      generalize W1.alloc (.cells #[.int .i64 0, .int .i64 0, .int .i64 0, .string ⟨#[]⟩, .int .i64 0, .int .i64 0, .string ⟨#[]⟩, .int .i64 0, .int .i64 0, .string ⟨#[]⟩] 27) = W2 at *
      refine (K.out _).mono ?_
      rintro e' W5 ⟨rfl, hA⟩
      replace c0 := bkeep hA c0
      replace c1 := bkeep hA c1
      replace c2 := bkeep hA c2
      replace c3 := bkeep hA c3
      replace c4 := bkeep hA c4
      replace c5 := bkeep hA c5
      replace c6 := bkeep hA c6
      replace c7 := bkeep hA c7
      replace c8 := bkeep hA c8
      replace c9 := bkeep hA c9
      replace v0 := bfree hA g0 v0
      replace v1 := bfree hA g1 v1
      replace v2 := bfree hA g2 v2
      replace v3 := bfree hA g3 v3
      replace v4 := bfree hA g4 v4
      replace v5 := bfree hA g5 v5
      replace v6 := bfree hA g6 v6
      replace v7 := bfree hA g7 v7
      replace v8 := bfree hA g8 v8
      replace v9 := bfree hA g9 v9
      replace g0 := bkeep hA g0
      replace g1 := bkeep hA g1
      replace g2 := bkeep hA g2
      replace g3 := bkeep hA g3
      replace g4 := bkeep hA g4
      replace g5 := bkeep hA g5
      replace g6 := bkeep hA g6
      replace g7 := bkeep hA g7
      replace g8 := bkeep hA g8
      replace g9 := bkeep hA g9
      replace HB := bt HB hA
      clear hA
      have hn2 := lt_ne g0
      have hn3 := fun h => hn2 (Eq.symm h)
      go_wp2_with (first | (go_at_call 31; (with_reducible refine (C.out _).mono ?_); rintro e' W6 ⟨rfl, hA⟩; replace c0 := bkeep hA c0; replace c1 := bkeep hA c1; replace c2 := bkeep hA c2; replace c3 := bkeep hA c3; replace c4 := bkeep hA c4; replace c5 := bkeep hA c5; replace c6 := bkeep hA c6; replace c7 := bkeep hA c7; replace c8 := bkeep hA c8; replace c9 := bkeep hA c9; replace v0 := bfree hA g0 v0; replace v1 := bfree hA g1 v1; replace v2 := bfree hA g2 v2; replace v3 := bfree hA g3 v3; replace v4 := bfree hA g4 v4; replace v5 := bfree hA g5 v5; replace v6 := bfree hA g6 v6; replace v7 := bfree hA g7 v7; replace v8 := bfree hA g8 v8; replace v9 := bfree hA g9 v9; replace g0 := bkeep hA g0; replace g1 := bkeep hA g1; replace g2 := bkeep hA g2; replace g3 := bkeep hA g3; replace g4 := bkeep hA g4; replace g5 := bkeep hA g5; replace g6 := bkeep hA g6; replace g7 := bkeep hA g7; replace g8 := bkeep hA g8; replace g9 := bkeep hA g9; replace HB := bt HB hA; clear hA hn2 hn3; have hn2 := lt_ne g0; have hn3 := fun h => hn2 (Eq.symm h)) | (go_at_call 32; (with_reducible refine (C.out _).mono ?_); rintro e' W6 ⟨rfl, hA⟩; replace c0 := bkeep hA c0; replace c1 := bkeep hA c1; replace c2 := bkeep hA c2; replace c3 := bkeep hA c3; replace c4 := bkeep hA c4; replace c5 := bkeep hA c5; replace c6 := bkeep hA c6; replace c7 := bkeep hA c7; replace c8 := bkeep hA c8; replace c9 := bkeep hA c9; replace v0 := bfree hA g0 v0; replace v1 := bfree hA g1 v1; replace v2 := bfree hA g2 v2; replace v3 := bfree hA g3 v3; replace v4 := bfree hA g4 v4; replace v5 := bfree hA g5 v5; replace v6 := bfree hA g6 v6; replace v7 := bfree hA g7 v7; replace v8 := bfree hA g8 v8; replace v9 := bfree hA g9 v9; replace g0 := bkeep hA g0; replace g1 := bkeep hA g1; replace g2 := bkeep hA g2; replace g3 := bkeep hA g3; replace g4 := bkeep hA g4; replace g5 := bkeep hA g5; replace g6 := bkeep hA g6; replace g7 := bkeep hA g7; replace g8 := bkeep hA g8; replace g9 := bkeep hA g9; replace HB := bt HB hA; clear hA hn2 hn3; have HP6 := World.block_lt_of_cell? W6 _ g0; have hA := (Below.refl W6.heap.size W6).alloc (Nat.le_refl _) (Obj.cells #[.int .i64 x, .int .i64 y] 23); replace c0 := bkeep hA c0; replace c1 := bkeep hA c1; replace c2 := bkeep hA c2; replace c3 := bkeep hA c3; replace c4 := bkeep hA c4; replace c5 := bkeep hA c5; replace c6 := bkeep hA c6; replace c7 := bkeep hA c7; replace c8 := bkeep hA c8; replace c9 := bkeep hA c9; replace v0 := bfree hA g0 v0; replace v1 := bfree hA g1 v1; replace v2 := bfree hA g2 v2; replace v3 := bfree hA g3 v3; replace v4 := bfree hA g4 v4; replace v5 := bfree hA g5 v5; replace v6 := bfree hA g6 v6; replace v7 := bfree hA g7 v7; replace v8 := bfree hA g8 v8; replace v9 := bfree hA g9 v9; replace g0 := bkeep hA g0; replace g1 := bkeep hA g1; replace g2 := bkeep hA g2; replace g3 := bkeep hA g3; replace g4 := bkeep hA g4; replace g5 := bkeep hA g5; replace g6 := bkeep hA g6; replace g7 := bkeep hA g7; replace g8 := bkeep hA g8; replace g9 := bkeep hA g9; replace HB := bt HB hA; clear hA; have hn2 := lt_ne g0; have hn3 := fun h => hn2 (Eq.symm h)))
      exact bodyPost_ret (v := .tuple #[(onS x y f).v, .int .i64 (0)]) (by simp [results, Try.results17, go_sem, g0, g1, g2, g3, g4, g5, g6, g7, g8, g9, onS, st0, hn2, hn3]) rfl ⟨by rw [HF.out.1, HF.out.2], by repeat (first | with_reducible exact HB | with_reducible refine Below.drew ?_ | with_reducible refine Below.setCell ?_ (by first | (simp; done) | (simp; omega)) _ | with_reducible refine Below.alloc ?_ (by first | (simp; done) | (simp; omega)) _)⟩
    · rw [show resD ⟨k, a, b, d, ⟨p, q, e⟩, ⟨r, s, f⟩⟩ 2 t = t by unfold resD; simp] at HS
      have HF := Lib.hid (And.intro HS HE)
      have C := Lib.hid (fun w => plain_ok (t := t) hx hy hE2 w)
      have hdz := hdz rfl
      clear HE HS hx hy hE2
      obtain ⟨c0, c1, c2, c3, c4, c5, c6, c7, c8, c9⟩ := held10 (w := w) (k := k) (a := a) (b := b) (d := d) (p := p) (q := q) (e := e) (r := r) (s := s) (f := f) 27
      have HB : Below w.heap.size w (w.alloc (.cells #[.int .i64 k, .int .i64 a, .int .i64 b, .string d, .int .i64 p, .int .i64 q, .string e, .int .i64 r, .int .i64 s, .string f] 27)) := (Below.refl _ _).alloc (Nat.le_refl _) _
      have hz1 : (w.alloc (.cells #[.int .i64 k, .int .i64 a, .int .i64 b, .string d, .int .i64 p, .int .i64 q, .string e, .int .i64 r, .int .i64 s, .string f] 27)).heap.size = w.heap.size + 1 := by simp
      go_enter Try.func17, Try.ntmps17
      go_wp2_with fail
      generalize w.alloc (.cells #[.int .i64 k, .int .i64 a, .int .i64 b, .string d, .int .i64 p, .int .i64 q, .string e, .int .i64 r, .int .i64 s, .string f] 27) = W1 at *
      obtain ⟨g0, g1, g2, g3, g4, g5, g6, g7, g8, g9⟩ := held10 (w := W1) (k := 0) (a := 0) (b := 0) (d := ⟨#[]⟩) (p := 0) (q := 0) (e := ⟨#[]⟩) (r := 0) (s := 0) (f := ⟨#[]⟩) 27
      obtain ⟨v0, v1, v2, v3, v4, v5, v6, v7, v8, v9⟩ := free10 (w := W1) (k := 0) (a := 0) (b := 0) (d := ⟨#[]⟩) (p := 0) (q := 0) (e := ⟨#[]⟩) (r := 0) (s := 0) (f := ⟨#[]⟩) 27
      have hA : Below W1.heap.size W1 (W1.alloc (.cells #[.int .i64 0, .int .i64 0, .int .i64 0, .string ⟨#[]⟩, .int .i64 0, .int .i64 0, .string ⟨#[]⟩, .int .i64 0, .int .i64 0, .string ⟨#[]⟩] 27)) := (Below.refl _ _).alloc (Nat.le_refl _) _
      rw [hz1] at g0 g1 g2 g3 g4 g5 g6 g7 g8 g9 v0 v1 v2 v3 v4 v5 v6 v7 v8 v9
      replace c0 := bkeep hA c0
      replace c1 := bkeep hA c1
      replace c2 := bkeep hA c2
      replace c3 := bkeep hA c3
      replace c4 := bkeep hA c4
      replace c5 := bkeep hA c5
      replace c6 := bkeep hA c6
      replace c7 := bkeep hA c7
      replace c8 := bkeep hA c8
      replace c9 := bkeep hA c9
      replace HB := bt HB hA
      clear hA hz1
      generalize W1.alloc (.cells #[.int .i64 0, .int .i64 0, .int .i64 0, .string ⟨#[]⟩, .int .i64 0, .int .i64 0, .string ⟨#[]⟩, .int .i64 0, .int .i64 0, .string ⟨#[]⟩] 27) = W2 at *
      refine (K.out _).mono ?_
      rintro e' W5 ⟨rfl, hA⟩
      replace c0 := bkeep hA c0
      replace c1 := bkeep hA c1
      replace c2 := bkeep hA c2
      replace c3 := bkeep hA c3
      replace c4 := bkeep hA c4
      replace c5 := bkeep hA c5
      replace c6 := bkeep hA c6
      replace c7 := bkeep hA c7
      replace c8 := bkeep hA c8
      replace c9 := bkeep hA c9
      replace v0 := bfree hA g0 v0
      replace v1 := bfree hA g1 v1
      replace v2 := bfree hA g2 v2
      replace v3 := bfree hA g3 v3
      replace v4 := bfree hA g4 v4
      replace v5 := bfree hA g5 v5
      replace v6 := bfree hA g6 v6
      replace v7 := bfree hA g7 v7
      replace v8 := bfree hA g8 v8
      replace v9 := bfree hA g9 v9
      replace g0 := bkeep hA g0
      replace g1 := bkeep hA g1
      replace g2 := bkeep hA g2
      replace g3 := bkeep hA g3
      replace g4 := bkeep hA g4
      replace g5 := bkeep hA g5
      replace g6 := bkeep hA g6
      replace g7 := bkeep hA g7
      replace g8 := bkeep hA g8
      replace g9 := bkeep hA g9
      replace HB := bt HB hA
      clear hA
      have hn2 := lt_ne g0
      have hn3 := fun h => hn2 (Eq.symm h)
      go_wp2_with (first | (go_at_call 31; (with_reducible refine (C.out _).mono ?_); rintro e' W6 ⟨rfl, hA⟩; replace c0 := bkeep hA c0; replace c1 := bkeep hA c1; replace c2 := bkeep hA c2; replace c3 := bkeep hA c3; replace c4 := bkeep hA c4; replace c5 := bkeep hA c5; replace c6 := bkeep hA c6; replace c7 := bkeep hA c7; replace c8 := bkeep hA c8; replace c9 := bkeep hA c9; replace v0 := bfree hA g0 v0; replace v1 := bfree hA g1 v1; replace v2 := bfree hA g2 v2; replace v3 := bfree hA g3 v3; replace v4 := bfree hA g4 v4; replace v5 := bfree hA g5 v5; replace v6 := bfree hA g6 v6; replace v7 := bfree hA g7 v7; replace v8 := bfree hA g8 v8; replace v9 := bfree hA g9 v9; replace g0 := bkeep hA g0; replace g1 := bkeep hA g1; replace g2 := bkeep hA g2; replace g3 := bkeep hA g3; replace g4 := bkeep hA g4; replace g5 := bkeep hA g5; replace g6 := bkeep hA g6; replace g7 := bkeep hA g7; replace g8 := bkeep hA g8; replace g9 := bkeep hA g9; replace HB := bt HB hA; clear hA hn2 hn3; have hn2 := lt_ne g0; have hn3 := fun h => hn2 (Eq.symm h)) | (go_at_call 32; (with_reducible refine (C.out _).mono ?_); rintro e' W6 ⟨rfl, hA⟩; replace c0 := bkeep hA c0; replace c1 := bkeep hA c1; replace c2 := bkeep hA c2; replace c3 := bkeep hA c3; replace c4 := bkeep hA c4; replace c5 := bkeep hA c5; replace c6 := bkeep hA c6; replace c7 := bkeep hA c7; replace c8 := bkeep hA c8; replace c9 := bkeep hA c9; replace v0 := bfree hA g0 v0; replace v1 := bfree hA g1 v1; replace v2 := bfree hA g2 v2; replace v3 := bfree hA g3 v3; replace v4 := bfree hA g4 v4; replace v5 := bfree hA g5 v5; replace v6 := bfree hA g6 v6; replace v7 := bfree hA g7 v7; replace v8 := bfree hA g8 v8; replace v9 := bfree hA g9 v9; replace g0 := bkeep hA g0; replace g1 := bkeep hA g1; replace g2 := bkeep hA g2; replace g3 := bkeep hA g3; replace g4 := bkeep hA g4; replace g5 := bkeep hA g5; replace g6 := bkeep hA g6; replace g7 := bkeep hA g7; replace g8 := bkeep hA g8; replace g9 := bkeep hA g9; replace HB := bt HB hA; clear hA hn2 hn3; have HP6 := World.block_lt_of_cell? W6 _ g0; have hA := (Below.refl W6.heap.size W6).alloc (Nat.le_refl _) (Obj.cells #[.int .i64 x, .int .i64 y] 23); replace c0 := bkeep hA c0; replace c1 := bkeep hA c1; replace c2 := bkeep hA c2; replace c3 := bkeep hA c3; replace c4 := bkeep hA c4; replace c5 := bkeep hA c5; replace c6 := bkeep hA c6; replace c7 := bkeep hA c7; replace c8 := bkeep hA c8; replace c9 := bkeep hA c9; replace v0 := bfree hA g0 v0; replace v1 := bfree hA g1 v1; replace v2 := bfree hA g2 v2; replace v3 := bfree hA g3 v3; replace v4 := bfree hA g4 v4; replace v5 := bfree hA g5 v5; replace v6 := bfree hA g6 v6; replace v7 := bfree hA g7 v7; replace v8 := bfree hA g8 v8; replace v9 := bfree hA g9 v9; replace g0 := bkeep hA g0; replace g1 := bkeep hA g1; replace g2 := bkeep hA g2; replace g3 := bkeep hA g3; replace g4 := bkeep hA g4; replace g5 := bkeep hA g5; replace g6 := bkeep hA g6; replace g7 := bkeep hA g7; replace g8 := bkeep hA g8; replace g9 := bkeep hA g9; replace HB := bt HB hA; clear hA; have hn2 := lt_ne g0; have hn3 := fun h => hn2 (Eq.symm h)))
      exact bodyPost_ret (v := .tuple #[(onS x y t).v, .int .i64 (0)]) (by simp [results, Try.results17, go_sem, g0, g1, g2, g3, g4, g5, g6, g7, g8, g9, onS, st0, hn2, hn3]) rfl ⟨by rw [HF.out.1, HF.out.2], by repeat (first | with_reducible exact HB | with_reducible refine Below.drew ?_ | with_reducible refine Below.setCell ?_ (by first | (simp; done) | (simp; omega)) _ | with_reducible refine Below.alloc ?_ (by first | (simp; done) | (simp; omega)) _)⟩
  · rw [HE, if_neg h0] at HS
    have HF := Lib.hid (And.intro HS HE)
    have hne : (E2 != 0) = true := bne_iff_ne.2 h0
    rcases hc3 with rfl | rfl | rfl
    · have C := Lib.hid (fun w => plain_bad (t := e) hE2 h0 w)
      clear HE HS hx hy hE2 h0 hdz
      obtain ⟨c0, c1, c2, c3, c4, c5, c6, c7, c8, c9⟩ := held10 (w := w) (k := k) (a := a) (b := b) (d := d) (p := p) (q := q) (e := e) (r := r) (s := s) (f := f) 27
      have HB : Below w.heap.size w (w.alloc (.cells #[.int .i64 k, .int .i64 a, .int .i64 b, .string d, .int .i64 p, .int .i64 q, .string e, .int .i64 r, .int .i64 s, .string f] 27)) := (Below.refl _ _).alloc (Nat.le_refl _) _
      have hz1 : (w.alloc (.cells #[.int .i64 k, .int .i64 a, .int .i64 b, .string d, .int .i64 p, .int .i64 q, .string e, .int .i64 r, .int .i64 s, .string f] 27)).heap.size = w.heap.size + 1 := by simp
      go_enter Try.func17, Try.ntmps17
      go_wp2_with fail
      generalize w.alloc (.cells #[.int .i64 k, .int .i64 a, .int .i64 b, .string d, .int .i64 p, .int .i64 q, .string e, .int .i64 r, .int .i64 s, .string f] 27) = W1 at *
      obtain ⟨g0, g1, g2, g3, g4, g5, g6, g7, g8, g9⟩ := held10 (w := W1) (k := 0) (a := 0) (b := 0) (d := ⟨#[]⟩) (p := 0) (q := 0) (e := ⟨#[]⟩) (r := 0) (s := 0) (f := ⟨#[]⟩) 27
      obtain ⟨v0, v1, v2, v3, v4, v5, v6, v7, v8, v9⟩ := free10 (w := W1) (k := 0) (a := 0) (b := 0) (d := ⟨#[]⟩) (p := 0) (q := 0) (e := ⟨#[]⟩) (r := 0) (s := 0) (f := ⟨#[]⟩) 27
      have hA : Below W1.heap.size W1 (W1.alloc (.cells #[.int .i64 0, .int .i64 0, .int .i64 0, .string ⟨#[]⟩, .int .i64 0, .int .i64 0, .string ⟨#[]⟩, .int .i64 0, .int .i64 0, .string ⟨#[]⟩] 27)) := (Below.refl _ _).alloc (Nat.le_refl _) _
      rw [hz1] at g0 g1 g2 g3 g4 g5 g6 g7 g8 g9 v0 v1 v2 v3 v4 v5 v6 v7 v8 v9
      replace c0 := bkeep hA c0
      replace c1 := bkeep hA c1
      replace c2 := bkeep hA c2
      replace c3 := bkeep hA c3
      replace c4 := bkeep hA c4
      replace c5 := bkeep hA c5
      replace c6 := bkeep hA c6
      replace c7 := bkeep hA c7
      replace c8 := bkeep hA c8
      replace c9 := bkeep hA c9
      replace HB := bt HB hA
      clear hA hz1
      generalize W1.alloc (.cells #[.int .i64 0, .int .i64 0, .int .i64 0, .string ⟨#[]⟩, .int .i64 0, .int .i64 0, .string ⟨#[]⟩, .int .i64 0, .int .i64 0, .string ⟨#[]⟩] 27) = W2 at *
      refine (K.out _).mono ?_
      rintro e' W5 ⟨rfl, hA⟩
      replace c0 := bkeep hA c0
      replace c1 := bkeep hA c1
      replace c2 := bkeep hA c2
      replace c3 := bkeep hA c3
      replace c4 := bkeep hA c4
      replace c5 := bkeep hA c5
      replace c6 := bkeep hA c6
      replace c7 := bkeep hA c7
      replace c8 := bkeep hA c8
      replace c9 := bkeep hA c9
      replace v0 := bfree hA g0 v0
      replace v1 := bfree hA g1 v1
      replace v2 := bfree hA g2 v2
      replace v3 := bfree hA g3 v3
      replace v4 := bfree hA g4 v4
      replace v5 := bfree hA g5 v5
      replace v6 := bfree hA g6 v6
      replace v7 := bfree hA g7 v7
      replace v8 := bfree hA g8 v8
      replace v9 := bfree hA g9 v9
      replace g0 := bkeep hA g0
      replace g1 := bkeep hA g1
      replace g2 := bkeep hA g2
      replace g3 := bkeep hA g3
      replace g4 := bkeep hA g4
      replace g5 := bkeep hA g5
      replace g6 := bkeep hA g6
      replace g7 := bkeep hA g7
      replace g8 := bkeep hA g8
      replace g9 := bkeep hA g9
      replace HB := bt HB hA
      clear hA
      have hn2 := lt_ne g0
      have hn3 := fun h => hn2 (Eq.symm h)
      go_wp2_with (first | (go_at_call 31; (with_reducible refine (C.out _).mono ?_); rintro e' W6 ⟨rfl, hA⟩; replace c0 := bkeep hA c0; replace c1 := bkeep hA c1; replace c2 := bkeep hA c2; replace c3 := bkeep hA c3; replace c4 := bkeep hA c4; replace c5 := bkeep hA c5; replace c6 := bkeep hA c6; replace c7 := bkeep hA c7; replace c8 := bkeep hA c8; replace c9 := bkeep hA c9; replace v0 := bfree hA g0 v0; replace v1 := bfree hA g1 v1; replace v2 := bfree hA g2 v2; replace v3 := bfree hA g3 v3; replace v4 := bfree hA g4 v4; replace v5 := bfree hA g5 v5; replace v6 := bfree hA g6 v6; replace v7 := bfree hA g7 v7; replace v8 := bfree hA g8 v8; replace v9 := bfree hA g9 v9; replace g0 := bkeep hA g0; replace g1 := bkeep hA g1; replace g2 := bkeep hA g2; replace g3 := bkeep hA g3; replace g4 := bkeep hA g4; replace g5 := bkeep hA g5; replace g6 := bkeep hA g6; replace g7 := bkeep hA g7; replace g8 := bkeep hA g8; replace g9 := bkeep hA g9; replace HB := bt HB hA; clear hA hn2 hn3; have hn2 := lt_ne g0; have hn3 := fun h => hn2 (Eq.symm h)) | (go_at_call 32; (with_reducible refine (C.out _).mono ?_); rintro e' W6 ⟨rfl, hA⟩; replace c0 := bkeep hA c0; replace c1 := bkeep hA c1; replace c2 := bkeep hA c2; replace c3 := bkeep hA c3; replace c4 := bkeep hA c4; replace c5 := bkeep hA c5; replace c6 := bkeep hA c6; replace c7 := bkeep hA c7; replace c8 := bkeep hA c8; replace c9 := bkeep hA c9; replace v0 := bfree hA g0 v0; replace v1 := bfree hA g1 v1; replace v2 := bfree hA g2 v2; replace v3 := bfree hA g3 v3; replace v4 := bfree hA g4 v4; replace v5 := bfree hA g5 v5; replace v6 := bfree hA g6 v6; replace v7 := bfree hA g7 v7; replace v8 := bfree hA g8 v8; replace v9 := bfree hA g9 v9; replace g0 := bkeep hA g0; replace g1 := bkeep hA g1; replace g2 := bkeep hA g2; replace g3 := bkeep hA g3; replace g4 := bkeep hA g4; replace g5 := bkeep hA g5; replace g6 := bkeep hA g6; replace g7 := bkeep hA g7; replace g8 := bkeep hA g8; replace g9 := bkeep hA g9; replace HB := bt HB hA; clear hA hn2 hn3; have HP6 := World.block_lt_of_cell? W6 _ g0; have hA := (Below.refl W6.heap.size W6).alloc (Nat.le_refl _) (Obj.cells #[.int .i64 x, .int .i64 y] 23); replace c0 := bkeep hA c0; replace c1 := bkeep hA c1; replace c2 := bkeep hA c2; replace c3 := bkeep hA c3; replace c4 := bkeep hA c4; replace c5 := bkeep hA c5; replace c6 := bkeep hA c6; replace c7 := bkeep hA c7; replace c8 := bkeep hA c8; replace c9 := bkeep hA c9; replace v0 := bfree hA g0 v0; replace v1 := bfree hA g1 v1; replace v2 := bfree hA g2 v2; replace v3 := bfree hA g3 v3; replace v4 := bfree hA g4 v4; replace v5 := bfree hA g5 v5; replace v6 := bfree hA g6 v6; replace v7 := bfree hA g7 v7; replace v8 := bfree hA g8 v8; replace v9 := bfree hA g9 v9; replace g0 := bkeep hA g0; replace g1 := bkeep hA g1; replace g2 := bkeep hA g2; replace g3 := bkeep hA g3; replace g4 := bkeep hA g4; replace g5 := bkeep hA g5; replace g6 := bkeep hA g6; replace g7 := bkeep hA g7; replace g8 := bkeep hA g8; replace g9 := bkeep hA g9; replace HB := bt HB hA; clear hA; have hn2 := lt_ne g0; have hn3 := fun h => hn2 (Eq.symm h)))
      exact bodyPost_ret (v := .tuple #[(st0).v, .int .i64 (E2)]) (by simp [results, Try.results17, go_sem, g0, g1, g2, g3, g4, g5, g6, g7, g8, g9, onS, st0, hn2, hn3]) rfl ⟨by rw [HF.out.1, HF.out.2], by repeat (first | with_reducible exact HB | with_reducible refine Below.drew ?_ | with_reducible refine Below.setCell ?_ (by first | (simp; done) | (simp; omega)) _ | with_reducible refine Below.alloc ?_ (by first | (simp; done) | (simp; omega)) _)⟩
    · have C := Lib.hid (fun w => plain_bad (t := f) hE2 h0 w)
      clear HE HS hx hy hE2 h0 hdz
      obtain ⟨c0, c1, c2, c3, c4, c5, c6, c7, c8, c9⟩ := held10 (w := w) (k := k) (a := a) (b := b) (d := d) (p := p) (q := q) (e := e) (r := r) (s := s) (f := f) 27
      have HB : Below w.heap.size w (w.alloc (.cells #[.int .i64 k, .int .i64 a, .int .i64 b, .string d, .int .i64 p, .int .i64 q, .string e, .int .i64 r, .int .i64 s, .string f] 27)) := (Below.refl _ _).alloc (Nat.le_refl _) _
      have hz1 : (w.alloc (.cells #[.int .i64 k, .int .i64 a, .int .i64 b, .string d, .int .i64 p, .int .i64 q, .string e, .int .i64 r, .int .i64 s, .string f] 27)).heap.size = w.heap.size + 1 := by simp
      go_enter Try.func17, Try.ntmps17
      go_wp2_with fail
      generalize w.alloc (.cells #[.int .i64 k, .int .i64 a, .int .i64 b, .string d, .int .i64 p, .int .i64 q, .string e, .int .i64 r, .int .i64 s, .string f] 27) = W1 at *
      obtain ⟨g0, g1, g2, g3, g4, g5, g6, g7, g8, g9⟩ := held10 (w := W1) (k := 0) (a := 0) (b := 0) (d := ⟨#[]⟩) (p := 0) (q := 0) (e := ⟨#[]⟩) (r := 0) (s := 0) (f := ⟨#[]⟩) 27
      obtain ⟨v0, v1, v2, v3, v4, v5, v6, v7, v8, v9⟩ := free10 (w := W1) (k := 0) (a := 0) (b := 0) (d := ⟨#[]⟩) (p := 0) (q := 0) (e := ⟨#[]⟩) (r := 0) (s := 0) (f := ⟨#[]⟩) 27
      have hA : Below W1.heap.size W1 (W1.alloc (.cells #[.int .i64 0, .int .i64 0, .int .i64 0, .string ⟨#[]⟩, .int .i64 0, .int .i64 0, .string ⟨#[]⟩, .int .i64 0, .int .i64 0, .string ⟨#[]⟩] 27)) := (Below.refl _ _).alloc (Nat.le_refl _) _
      rw [hz1] at g0 g1 g2 g3 g4 g5 g6 g7 g8 g9 v0 v1 v2 v3 v4 v5 v6 v7 v8 v9
      replace c0 := bkeep hA c0
      replace c1 := bkeep hA c1
      replace c2 := bkeep hA c2
      replace c3 := bkeep hA c3
      replace c4 := bkeep hA c4
      replace c5 := bkeep hA c5
      replace c6 := bkeep hA c6
      replace c7 := bkeep hA c7
      replace c8 := bkeep hA c8
      replace c9 := bkeep hA c9
      replace HB := bt HB hA
      clear hA hz1
      generalize W1.alloc (.cells #[.int .i64 0, .int .i64 0, .int .i64 0, .string ⟨#[]⟩, .int .i64 0, .int .i64 0, .string ⟨#[]⟩, .int .i64 0, .int .i64 0, .string ⟨#[]⟩] 27) = W2 at *
      refine (K.out _).mono ?_
      rintro e' W5 ⟨rfl, hA⟩
      replace c0 := bkeep hA c0
      replace c1 := bkeep hA c1
      replace c2 := bkeep hA c2
      replace c3 := bkeep hA c3
      replace c4 := bkeep hA c4
      replace c5 := bkeep hA c5
      replace c6 := bkeep hA c6
      replace c7 := bkeep hA c7
      replace c8 := bkeep hA c8
      replace c9 := bkeep hA c9
      replace v0 := bfree hA g0 v0
      replace v1 := bfree hA g1 v1
      replace v2 := bfree hA g2 v2
      replace v3 := bfree hA g3 v3
      replace v4 := bfree hA g4 v4
      replace v5 := bfree hA g5 v5
      replace v6 := bfree hA g6 v6
      replace v7 := bfree hA g7 v7
      replace v8 := bfree hA g8 v8
      replace v9 := bfree hA g9 v9
      replace g0 := bkeep hA g0
      replace g1 := bkeep hA g1
      replace g2 := bkeep hA g2
      replace g3 := bkeep hA g3
      replace g4 := bkeep hA g4
      replace g5 := bkeep hA g5
      replace g6 := bkeep hA g6
      replace g7 := bkeep hA g7
      replace g8 := bkeep hA g8
      replace g9 := bkeep hA g9
      replace HB := bt HB hA
      clear hA
      have hn2 := lt_ne g0
      have hn3 := fun h => hn2 (Eq.symm h)
      go_wp2_with (first | (go_at_call 31; (with_reducible refine (C.out _).mono ?_); rintro e' W6 ⟨rfl, hA⟩; replace c0 := bkeep hA c0; replace c1 := bkeep hA c1; replace c2 := bkeep hA c2; replace c3 := bkeep hA c3; replace c4 := bkeep hA c4; replace c5 := bkeep hA c5; replace c6 := bkeep hA c6; replace c7 := bkeep hA c7; replace c8 := bkeep hA c8; replace c9 := bkeep hA c9; replace v0 := bfree hA g0 v0; replace v1 := bfree hA g1 v1; replace v2 := bfree hA g2 v2; replace v3 := bfree hA g3 v3; replace v4 := bfree hA g4 v4; replace v5 := bfree hA g5 v5; replace v6 := bfree hA g6 v6; replace v7 := bfree hA g7 v7; replace v8 := bfree hA g8 v8; replace v9 := bfree hA g9 v9; replace g0 := bkeep hA g0; replace g1 := bkeep hA g1; replace g2 := bkeep hA g2; replace g3 := bkeep hA g3; replace g4 := bkeep hA g4; replace g5 := bkeep hA g5; replace g6 := bkeep hA g6; replace g7 := bkeep hA g7; replace g8 := bkeep hA g8; replace g9 := bkeep hA g9; replace HB := bt HB hA; clear hA hn2 hn3; have hn2 := lt_ne g0; have hn3 := fun h => hn2 (Eq.symm h)) | (go_at_call 32; (with_reducible refine (C.out _).mono ?_); rintro e' W6 ⟨rfl, hA⟩; replace c0 := bkeep hA c0; replace c1 := bkeep hA c1; replace c2 := bkeep hA c2; replace c3 := bkeep hA c3; replace c4 := bkeep hA c4; replace c5 := bkeep hA c5; replace c6 := bkeep hA c6; replace c7 := bkeep hA c7; replace c8 := bkeep hA c8; replace c9 := bkeep hA c9; replace v0 := bfree hA g0 v0; replace v1 := bfree hA g1 v1; replace v2 := bfree hA g2 v2; replace v3 := bfree hA g3 v3; replace v4 := bfree hA g4 v4; replace v5 := bfree hA g5 v5; replace v6 := bfree hA g6 v6; replace v7 := bfree hA g7 v7; replace v8 := bfree hA g8 v8; replace v9 := bfree hA g9 v9; replace g0 := bkeep hA g0; replace g1 := bkeep hA g1; replace g2 := bkeep hA g2; replace g3 := bkeep hA g3; replace g4 := bkeep hA g4; replace g5 := bkeep hA g5; replace g6 := bkeep hA g6; replace g7 := bkeep hA g7; replace g8 := bkeep hA g8; replace g9 := bkeep hA g9; replace HB := bt HB hA; clear hA hn2 hn3; have HP6 := World.block_lt_of_cell? W6 _ g0; have hA := (Below.refl W6.heap.size W6).alloc (Nat.le_refl _) (Obj.cells #[.int .i64 x, .int .i64 y] 23); replace c0 := bkeep hA c0; replace c1 := bkeep hA c1; replace c2 := bkeep hA c2; replace c3 := bkeep hA c3; replace c4 := bkeep hA c4; replace c5 := bkeep hA c5; replace c6 := bkeep hA c6; replace c7 := bkeep hA c7; replace c8 := bkeep hA c8; replace c9 := bkeep hA c9; replace v0 := bfree hA g0 v0; replace v1 := bfree hA g1 v1; replace v2 := bfree hA g2 v2; replace v3 := bfree hA g3 v3; replace v4 := bfree hA g4 v4; replace v5 := bfree hA g5 v5; replace v6 := bfree hA g6 v6; replace v7 := bfree hA g7 v7; replace v8 := bfree hA g8 v8; replace v9 := bfree hA g9 v9; replace g0 := bkeep hA g0; replace g1 := bkeep hA g1; replace g2 := bkeep hA g2; replace g3 := bkeep hA g3; replace g4 := bkeep hA g4; replace g5 := bkeep hA g5; replace g6 := bkeep hA g6; replace g7 := bkeep hA g7; replace g8 := bkeep hA g8; replace g9 := bkeep hA g9; replace HB := bt HB hA; clear hA; have hn2 := lt_ne g0; have hn3 := fun h => hn2 (Eq.symm h)))
      exact bodyPost_ret (v := .tuple #[(st0).v, .int .i64 (E2)]) (by simp [results, Try.results17, go_sem, g0, g1, g2, g3, g4, g5, g6, g7, g8, g9, onS, st0, hn2, hn3]) rfl ⟨by rw [HF.out.1, HF.out.2], by repeat (first | with_reducible exact HB | with_reducible refine Below.drew ?_ | with_reducible refine Below.setCell ?_ (by first | (simp; done) | (simp; omega)) _ | with_reducible refine Below.alloc ?_ (by first | (simp; done) | (simp; omega)) _)⟩
    · have C := Lib.hid (fun w => plain_bad (t := t) hE2 h0 w)
      have hdz := hdz rfl
      clear HE HS hx hy hE2 h0
      obtain ⟨c0, c1, c2, c3, c4, c5, c6, c7, c8, c9⟩ := held10 (w := w) (k := k) (a := a) (b := b) (d := d) (p := p) (q := q) (e := e) (r := r) (s := s) (f := f) 27
      have HB : Below w.heap.size w (w.alloc (.cells #[.int .i64 k, .int .i64 a, .int .i64 b, .string d, .int .i64 p, .int .i64 q, .string e, .int .i64 r, .int .i64 s, .string f] 27)) := (Below.refl _ _).alloc (Nat.le_refl _) _
      have hz1 : (w.alloc (.cells #[.int .i64 k, .int .i64 a, .int .i64 b, .string d, .int .i64 p, .int .i64 q, .string e, .int .i64 r, .int .i64 s, .string f] 27)).heap.size = w.heap.size + 1 := by simp
      go_enter Try.func17, Try.ntmps17
      go_wp2_with fail
      generalize w.alloc (.cells #[.int .i64 k, .int .i64 a, .int .i64 b, .string d, .int .i64 p, .int .i64 q, .string e, .int .i64 r, .int .i64 s, .string f] 27) = W1 at *
      obtain ⟨g0, g1, g2, g3, g4, g5, g6, g7, g8, g9⟩ := held10 (w := W1) (k := 0) (a := 0) (b := 0) (d := ⟨#[]⟩) (p := 0) (q := 0) (e := ⟨#[]⟩) (r := 0) (s := 0) (f := ⟨#[]⟩) 27
      obtain ⟨v0, v1, v2, v3, v4, v5, v6, v7, v8, v9⟩ := free10 (w := W1) (k := 0) (a := 0) (b := 0) (d := ⟨#[]⟩) (p := 0) (q := 0) (e := ⟨#[]⟩) (r := 0) (s := 0) (f := ⟨#[]⟩) 27
      have hA : Below W1.heap.size W1 (W1.alloc (.cells #[.int .i64 0, .int .i64 0, .int .i64 0, .string ⟨#[]⟩, .int .i64 0, .int .i64 0, .string ⟨#[]⟩, .int .i64 0, .int .i64 0, .string ⟨#[]⟩] 27)) := (Below.refl _ _).alloc (Nat.le_refl _) _
      rw [hz1] at g0 g1 g2 g3 g4 g5 g6 g7 g8 g9 v0 v1 v2 v3 v4 v5 v6 v7 v8 v9
      replace c0 := bkeep hA c0
      replace c1 := bkeep hA c1
      replace c2 := bkeep hA c2
      replace c3 := bkeep hA c3
      replace c4 := bkeep hA c4
      replace c5 := bkeep hA c5
      replace c6 := bkeep hA c6
      replace c7 := bkeep hA c7
      replace c8 := bkeep hA c8
      replace c9 := bkeep hA c9
      replace HB := bt HB hA
      clear hA hz1
      generalize W1.alloc (.cells #[.int .i64 0, .int .i64 0, .int .i64 0, .string ⟨#[]⟩, .int .i64 0, .int .i64 0, .string ⟨#[]⟩, .int .i64 0, .int .i64 0, .string ⟨#[]⟩] 27) = W2 at *
      refine (K.out _).mono ?_
      rintro e' W5 ⟨rfl, hA⟩
      replace c0 := bkeep hA c0
      replace c1 := bkeep hA c1
      replace c2 := bkeep hA c2
      replace c3 := bkeep hA c3
      replace c4 := bkeep hA c4
      replace c5 := bkeep hA c5
      replace c6 := bkeep hA c6
      replace c7 := bkeep hA c7
      replace c8 := bkeep hA c8
      replace c9 := bkeep hA c9
      replace v0 := bfree hA g0 v0
      replace v1 := bfree hA g1 v1
      replace v2 := bfree hA g2 v2
      replace v3 := bfree hA g3 v3
      replace v4 := bfree hA g4 v4
      replace v5 := bfree hA g5 v5
      replace v6 := bfree hA g6 v6
      replace v7 := bfree hA g7 v7
      replace v8 := bfree hA g8 v8
      replace v9 := bfree hA g9 v9
      replace g0 := bkeep hA g0
      replace g1 := bkeep hA g1
      replace g2 := bkeep hA g2
      replace g3 := bkeep hA g3
      replace g4 := bkeep hA g4
      replace g5 := bkeep hA g5
      replace g6 := bkeep hA g6
      replace g7 := bkeep hA g7
      replace g8 := bkeep hA g8
      replace g9 := bkeep hA g9
      replace HB := bt HB hA
      clear hA
      have hn2 := lt_ne g0
      have hn3 := fun h => hn2 (Eq.symm h)
      go_wp2_with (first | (go_at_call 31; (with_reducible refine (C.out _).mono ?_); rintro e' W6 ⟨rfl, hA⟩; replace c0 := bkeep hA c0; replace c1 := bkeep hA c1; replace c2 := bkeep hA c2; replace c3 := bkeep hA c3; replace c4 := bkeep hA c4; replace c5 := bkeep hA c5; replace c6 := bkeep hA c6; replace c7 := bkeep hA c7; replace c8 := bkeep hA c8; replace c9 := bkeep hA c9; replace v0 := bfree hA g0 v0; replace v1 := bfree hA g1 v1; replace v2 := bfree hA g2 v2; replace v3 := bfree hA g3 v3; replace v4 := bfree hA g4 v4; replace v5 := bfree hA g5 v5; replace v6 := bfree hA g6 v6; replace v7 := bfree hA g7 v7; replace v8 := bfree hA g8 v8; replace v9 := bfree hA g9 v9; replace g0 := bkeep hA g0; replace g1 := bkeep hA g1; replace g2 := bkeep hA g2; replace g3 := bkeep hA g3; replace g4 := bkeep hA g4; replace g5 := bkeep hA g5; replace g6 := bkeep hA g6; replace g7 := bkeep hA g7; replace g8 := bkeep hA g8; replace g9 := bkeep hA g9; replace HB := bt HB hA; clear hA hn2 hn3; have hn2 := lt_ne g0; have hn3 := fun h => hn2 (Eq.symm h)) | (go_at_call 32; (with_reducible refine (C.out _).mono ?_); rintro e' W6 ⟨rfl, hA⟩; replace c0 := bkeep hA c0; replace c1 := bkeep hA c1; replace c2 := bkeep hA c2; replace c3 := bkeep hA c3; replace c4 := bkeep hA c4; replace c5 := bkeep hA c5; replace c6 := bkeep hA c6; replace c7 := bkeep hA c7; replace c8 := bkeep hA c8; replace c9 := bkeep hA c9; replace v0 := bfree hA g0 v0; replace v1 := bfree hA g1 v1; replace v2 := bfree hA g2 v2; replace v3 := bfree hA g3 v3; replace v4 := bfree hA g4 v4; replace v5 := bfree hA g5 v5; replace v6 := bfree hA g6 v6; replace v7 := bfree hA g7 v7; replace v8 := bfree hA g8 v8; replace v9 := bfree hA g9 v9; replace g0 := bkeep hA g0; replace g1 := bkeep hA g1; replace g2 := bkeep hA g2; replace g3 := bkeep hA g3; replace g4 := bkeep hA g4; replace g5 := bkeep hA g5; replace g6 := bkeep hA g6; replace g7 := bkeep hA g7; replace g8 := bkeep hA g8; replace g9 := bkeep hA g9; replace HB := bt HB hA; clear hA hn2 hn3; have HP6 := World.block_lt_of_cell? W6 _ g0; have hA := (Below.refl W6.heap.size W6).alloc (Nat.le_refl _) (Obj.cells #[.int .i64 x, .int .i64 y] 23); replace c0 := bkeep hA c0; replace c1 := bkeep hA c1; replace c2 := bkeep hA c2; replace c3 := bkeep hA c3; replace c4 := bkeep hA c4; replace c5 := bkeep hA c5; replace c6 := bkeep hA c6; replace c7 := bkeep hA c7; replace c8 := bkeep hA c8; replace c9 := bkeep hA c9; replace v0 := bfree hA g0 v0; replace v1 := bfree hA g1 v1; replace v2 := bfree hA g2 v2; replace v3 := bfree hA g3 v3; replace v4 := bfree hA g4 v4; replace v5 := bfree hA g5 v5; replace v6 := bfree hA g6 v6; replace v7 := bfree hA g7 v7; replace v8 := bfree hA g8 v8; replace v9 := bfree hA g9 v9; replace g0 := bkeep hA g0; replace g1 := bkeep hA g1; replace g2 := bkeep hA g2; replace g3 := bkeep hA g3; replace g4 := bkeep hA g4; replace g5 := bkeep hA g5; replace g6 := bkeep hA g6; replace g7 := bkeep hA g7; replace g8 := bkeep hA g8; replace g9 := bkeep hA g9; replace HB := bt HB hA; clear hA; have hn2 := lt_ne g0; have hn3 := fun h => hn2 (Eq.symm h)))
      exact bodyPost_ret (v := .tuple #[(st0).v, .int .i64 (E2)]) (by simp [results, Try.results17, go_sem, g0, g1, g2, g3, g4, g5, g6, g7, g8, g9, onS, st0, hn2, hn3]) rfl ⟨by rw [HF.out.1, HF.out.2], by repeat (first | with_reducible exact HB | with_reducible refine Below.drew ?_ | with_reducible refine Below.setCell ?_ (by first | (simp; done) | (simp; omega)) _ | with_reducible refine Below.alloc ?_ (by first | (simp; done) | (simp; omega)) _)⟩
end Go.Proofs.Ytingeahkndingaa
