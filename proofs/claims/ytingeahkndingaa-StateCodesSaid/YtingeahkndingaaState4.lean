/-
  Package state (chapter 23): what comes of two.
-/
import Derived.Test.YtingeahkndingaaState3
import Derived.Test.YtingeahkndingaaDraw
namespace Go.Proofs.Ytingeahkndingaa
open Go.RowKit
set_option linter.unusedVariables false
set_option linter.unusedSimpArgs false
/-- what comes of two that stand beside each other -/
def meetS (x y : St) : St := ⟨1, mx x.a y.a, mx x.b y.b, ⟨#[]⟩, sideS x 0, sideS y 1⟩
def joinS (x y : St) : St := if cmpZ x.a x.b y.a y.b = 3 then (if x.a < y.a then meetS y x else meetS x y) else if cmpZ x.a x.b y.a y.b = 2 then y else x
theorem free10 {w : World} {k a b p q r s : Int} {d e f : ByteArray} (T : TypeId) : let W := w.alloc (.cells #[.int .i64 k, .int .i64 a, .int .i64 b, .string d, .int .i64 p, .int .i64 q, .string e, .int .i64 r, .int .i64 s, .string f] T)
    W.frozen? ⟨w.heap.size, 0, none⟩ = false ∧ W.frozen? ⟨w.heap.size, 1, none⟩ = false ∧ W.frozen? ⟨w.heap.size, 2, none⟩ = false ∧ W.frozen? ⟨w.heap.size, 3, none⟩ = false ∧ W.frozen? ⟨w.heap.size, 4, none⟩ = false ∧ W.frozen? ⟨w.heap.size, 5, none⟩ = false ∧ W.frozen? ⟨w.heap.size, 6, none⟩ = false ∧ W.frozen? ⟨w.heap.size, 7, none⟩ = false ∧ W.frozen? ⟨w.heap.size, 8, none⟩ = false ∧ W.frozen? ⟨w.heap.size, 9, none⟩ = false := by
  intro W
  refine ⟨?_, ?_, ?_, ?_, ?_, ?_, ?_, ?_, ?_, ?_⟩ <;> simp [W, go_sem]
theorem stSide_at {x : St} {n u v : Int} {t : ByteArray} (h : sideS x n = ⟨u, v, t⟩) (w : World) : Calls Try.prog 28 #[x.v, .int .i64 n] w fun e' w' => e' = .returned (VE u v t) ∧ Below w.heap.size w w' := by
  have := stSide_any x.k x.a x.b x.d x.x.p x.x.q x.x.d x.y.p x.y.q x.y.d n w
  rw [show (⟨x.k, x.a, x.b, x.d, ⟨x.x.p, x.x.q, x.x.d⟩, ⟨x.y.p, x.y.q, x.y.d⟩⟩ : St) = x from rfl, h] at this
  exact this
set_option maxHeartbeats 6400000 in
theorem join_same (k a b : Int) (d : ByteArray) (p q : Int) (e : ByteArray) (r s : Int) (f : ByteArray) (k2 a2 b2 : Int) (d2 : ByteArray) (p2 q2 : Int) (e2 : ByteArray) (r2 s2 : Int) (f2 : ByteArray) (w : World) (z : Int) (hz : cmpZ a b a2 b2 = z) (h : z = 0 ∨ z = 1) : Calls Try.prog 10 #[SS k a b d p q e r s f, SS k2 a2 b2 d2 p2 q2 e2 r2 s2 f2] w fun e' w' => e' = .returned (SS k a b d p q e r s f) ∧ Below w.heap.size w w' := by
  obtain ⟨c0, c1, c2, c3, c4, c5, c6, c7, c8, c9⟩ := held10 (w := w) (k := k) (a := a) (b := b) (d := d) (p := p) (q := q) (e := e) (r := r) (s := s) (f := f) 27
  obtain ⟨x0, x1, x2, x3, x4, x5, x6, x7, x8, x9⟩ := free10 (w := w) (k := k) (a := a) (b := b) (d := d) (p := p) (q := q) (e := e) (r := r) (s := s) (f := f) 27
  have HB : Below w.heap.size w (w.alloc (.cells #[.int .i64 k, .int .i64 a, .int .i64 b, .string d, .int .i64 p, .int .i64 q, .string e, .int .i64 r, .int .i64 s, .string f] 27)) := (Below.refl _ _).alloc (Nat.le_refl _) _
  have hz1 : (w.alloc (.cells #[.int .i64 k, .int .i64 a, .int .i64 b, .string d, .int .i64 p, .int .i64 q, .string e, .int .i64 r, .int .i64 s, .string f] 27)).heap.size = w.heap.size + 1 := by simp
  go_enter Try.func10, Try.ntmps10
  go_wp2_with fail
  generalize w.alloc (.cells #[.int .i64 k, .int .i64 a, .int .i64 b, .string d, .int .i64 p, .int .i64 q, .string e, .int .i64 r, .int .i64 s, .string f] 27) = W1 at *
  obtain ⟨u0, u1, u2, u3, u4, u5, u6, u7, u8, u9⟩ := held10 (w := W1) (k := k2) (a := a2) (b := b2) (d := d2) (p := p2) (q := q2) (e := e2) (r := r2) (s := s2) (f := f2) 27
  obtain ⟨y0, y1, y2, y3, y4, y5, y6, y7, y8, y9⟩ := free10 (w := W1) (k := k2) (a := a2) (b := b2) (d := d2) (p := p2) (q := q2) (e := e2) (r := r2) (s := s2) (f := f2) 27
  have hA : Below W1.heap.size W1 (W1.alloc (.cells #[.int .i64 k2, .int .i64 a2, .int .i64 b2, .string d2, .int .i64 p2, .int .i64 q2, .string e2, .int .i64 r2, .int .i64 s2, .string f2] 27)) := (Below.refl _ _).alloc (Nat.le_refl _) _
  have hz2 : (W1.alloc (.cells #[.int .i64 k2, .int .i64 a2, .int .i64 b2, .string d2, .int .i64 p2, .int .i64 q2, .string e2, .int .i64 r2, .int .i64 s2, .string f2] 27)).heap.size = w.heap.size + 1 + 1 := by simp [hz1]
  rw [hz1] at u0 u1 u2 u3 u4 u5 u6 u7 u8 u9 y0 y1 y2 y3 y4 y5 y6 y7 y8 y9
  replace x0 := bfree hA c0 x0
  replace x1 := bfree hA c1 x1
  replace x2 := bfree hA c2 x2
  replace x3 := bfree hA c3 x3
  replace x4 := bfree hA c4 x4
  replace x5 := bfree hA c5 x5
  replace x6 := bfree hA c6 x6
  replace x7 := bfree hA c7 x7
  replace x8 := bfree hA c8 x8
  replace x9 := bfree hA c9 x9
  replace c0 := bkeep hA c0
  replace c1 := bkeep hA c1
  replace c2 := bkeep hA c2
  replace c3 := bkeep hA c3
  replace c4 := bkeep hA c4
  replace c5 := bkeep hA c5
  replace c6 := bkeep hA c6
  replace c7 := bkeep hA c7
  replace c8 := bkeep hA c8
  replace c9 := bkeep hA c9
  replace HB := bt HB hA
  clear hA
  generalize W1.alloc (.cells #[.int .i64 k2, .int .i64 a2, .int .i64 b2, .string d2, .int .i64 p2, .int .i64 q2, .string e2, .int .i64 r2, .int .i64 s2, .string f2] 27) = W2 at *
  obtain ⟨g0, g1, g2, g3, g4, g5, g6, g7, g8, g9⟩ := held10 (w := W2) (k := 0) (a := 0) (b := 0) (d := ⟨#[]⟩) (p := 0) (q := 0) (e := ⟨#[]⟩) (r := 0) (s := 0) (f := ⟨#[]⟩) 27
  obtain ⟨v0, v1, v2, v3, v4, v5, v6, v7, v8, v9⟩ := free10 (w := W2) (k := 0) (a := 0) (b := 0) (d := ⟨#[]⟩) (p := 0) (q := 0) (e := ⟨#[]⟩) (r := 0) (s := 0) (f := ⟨#[]⟩) 27
  have hA : Below W2.heap.size W2 (W2.alloc (.cells #[.int .i64 0, .int .i64 0, .int .i64 0, .string ⟨#[]⟩, .int .i64 0, .int .i64 0, .string ⟨#[]⟩, .int .i64 0, .int .i64 0, .string ⟨#[]⟩] 27)) := (Below.refl _ _).alloc (Nat.le_refl _) _
  rw [hz2] at g0 g1 g2 g3 g4 g5 g6 g7 g8 g9 v0 v1 v2 v3 v4 v5 v6 v7 v8 v9
  replace x0 := bfree hA c0 x0
  replace x1 := bfree hA c1 x1
  replace x2 := bfree hA c2 x2
  replace x3 := bfree hA c3 x3
  replace x4 := bfree hA c4 x4
  replace x5 := bfree hA c5 x5
  replace x6 := bfree hA c6 x6
  replace x7 := bfree hA c7 x7
  replace x8 := bfree hA c8 x8
  replace x9 := bfree hA c9 x9
  replace c0 := bkeep hA c0
  replace c1 := bkeep hA c1
  replace c2 := bkeep hA c2
  replace c3 := bkeep hA c3
  replace c4 := bkeep hA c4
  replace c5 := bkeep hA c5
  replace c6 := bkeep hA c6
  replace c7 := bkeep hA c7
  replace c8 := bkeep hA c8
  replace c9 := bkeep hA c9
  replace y0 := bfree hA u0 y0
  replace y1 := bfree hA u1 y1
  replace y2 := bfree hA u2 y2
  replace y3 := bfree hA u3 y3
  replace y4 := bfree hA u4 y4
  replace y5 := bfree hA u5 y5
  replace y6 := bfree hA u6 y6
  replace y7 := bfree hA u7 y7
  replace y8 := bfree hA u8 y8
  replace y9 := bfree hA u9 y9
  replace u0 := bkeep hA u0
  replace u1 := bkeep hA u1
  replace u2 := bkeep hA u2
  replace u3 := bkeep hA u3
  replace u4 := bkeep hA u4
  replace u5 := bkeep hA u5
  replace u6 := bkeep hA u6
  replace u7 := bkeep hA u7
  replace u8 := bkeep hA u8
  replace u9 := bkeep hA u9
  replace HB := bt HB hA
  clear hA hz1 hz2
  generalize W2.alloc (.cells #[.int .i64 0, .int .i64 0, .int .i64 0, .string ⟨#[]⟩, .int .i64 0, .int .i64 0, .string ⟨#[]⟩, .int .i64 0, .int .i64 0, .string ⟨#[]⟩] 27) = W3 at *
  refine (compare_any _ _ _ _ _).mono ?_
  rintro e' W4 ⟨rfl, hA⟩
  replace x0 := bfree hA c0 x0
  replace x1 := bfree hA c1 x1
  replace x2 := bfree hA c2 x2
  replace x3 := bfree hA c3 x3
  replace x4 := bfree hA c4 x4
  replace x5 := bfree hA c5 x5
  replace x6 := bfree hA c6 x6
  replace x7 := bfree hA c7 x7
  replace x8 := bfree hA c8 x8
  replace x9 := bfree hA c9 x9
  replace c0 := bkeep hA c0
  replace c1 := bkeep hA c1
  replace c2 := bkeep hA c2
  replace c3 := bkeep hA c3
  replace c4 := bkeep hA c4
  replace c5 := bkeep hA c5
  replace c6 := bkeep hA c6
  replace c7 := bkeep hA c7
  replace c8 := bkeep hA c8
  replace c9 := bkeep hA c9
  replace y0 := bfree hA u0 y0
  replace y1 := bfree hA u1 y1
  replace y2 := bfree hA u2 y2
  replace y3 := bfree hA u3 y3
  replace y4 := bfree hA u4 y4
  replace y5 := bfree hA u5 y5
  replace y6 := bfree hA u6 y6
  replace y7 := bfree hA u7 y7
  replace y8 := bfree hA u8 y8
  replace y9 := bfree hA u9 y9
  replace u0 := bkeep hA u0
  replace u1 := bkeep hA u1
  replace u2 := bkeep hA u2
  replace u3 := bkeep hA u3
  replace u4 := bkeep hA u4
  replace u5 := bkeep hA u5
  replace u6 := bkeep hA u6
  replace u7 := bkeep hA u7
  replace u8 := bkeep hA u8
  replace u9 := bkeep hA u9
  replace v0 := bfree hA g0 v0
  replace v1 := bfree hA g1 v1
  replace v2 := bfree hA g2 v2
  replace v3 := bfree hA g3 v3
  replace v4 := bfree hA g4 v4
  replace v5 := bfree hA g5 v5
  replace v6 := bfree hA g6 v6
  replace v7 := bfree hA g7 v7
  replace v8 := bfree hA g8 v8
  replace v9 := bfree hA g9 v9
  replace g0 := bkeep hA g0
  replace g1 := bkeep hA g1
  replace g2 := bkeep hA g2
  replace g3 := bkeep hA g3
  replace g4 := bkeep hA g4
  replace g5 := bkeep hA g5
  replace g6 := bkeep hA g6
  replace g7 := bkeep hA g7
  replace g8 := bkeep hA g8
  replace g9 := bkeep hA g9
  replace HB := bt HB hA
  rw [hz]
  clear hA hz
  rcases h with rfl | rfl
  all_goals
    go_wp2
    exact bodyPost_ret (v := SS k a b d p q e r s f) (by simp [results, Try.results10, go_sem, g0, g1, g2, g3, g4, g5, g6, g7, g8, g9]) rfl ⟨rfl, by repeat (first | with_reducible exact HB | refine Below.setCell ?_ (by first | (simp; done) | (simp; omega)) _ | refine Below.alloc ?_ (by first | (simp; done) | (simp; omega)) _)⟩
set_option maxHeartbeats 6400000 in
theorem join_behind (k a b : Int) (d : ByteArray) (p q : Int) (e : ByteArray) (r s : Int) (f : ByteArray) (k2 a2 b2 : Int) (d2 : ByteArray) (p2 q2 : Int) (e2 : ByteArray) (r2 s2 : Int) (f2 : ByteArray) (w : World) (hz : cmpZ a b a2 b2 = 2) : Calls Try.prog 10 #[SS k a b d p q e r s f, SS k2 a2 b2 d2 p2 q2 e2 r2 s2 f2] w fun e' w' => e' = .returned (SS k2 a2 b2 d2 p2 q2 e2 r2 s2 f2) ∧ Below w.heap.size w w' := by
  obtain ⟨c0, c1, c2, c3, c4, c5, c6, c7, c8, c9⟩ := held10 (w := w) (k := k) (a := a) (b := b) (d := d) (p := p) (q := q) (e := e) (r := r) (s := s) (f := f) 27
  obtain ⟨x0, x1, x2, x3, x4, x5, x6, x7, x8, x9⟩ := free10 (w := w) (k := k) (a := a) (b := b) (d := d) (p := p) (q := q) (e := e) (r := r) (s := s) (f := f) 27
  have HB : Below w.heap.size w (w.alloc (.cells #[.int .i64 k, .int .i64 a, .int .i64 b, .string d, .int .i64 p, .int .i64 q, .string e, .int .i64 r, .int .i64 s, .string f] 27)) := (Below.refl _ _).alloc (Nat.le_refl _) _
  have hz1 : (w.alloc (.cells #[.int .i64 k, .int .i64 a, .int .i64 b, .string d, .int .i64 p, .int .i64 q, .string e, .int .i64 r, .int .i64 s, .string f] 27)).heap.size = w.heap.size + 1 := by simp
  go_enter Try.func10, Try.ntmps10
  go_wp2_with fail
  generalize w.alloc (.cells #[.int .i64 k, .int .i64 a, .int .i64 b, .string d, .int .i64 p, .int .i64 q, .string e, .int .i64 r, .int .i64 s, .string f] 27) = W1 at *
  obtain ⟨u0, u1, u2, u3, u4, u5, u6, u7, u8, u9⟩ := held10 (w := W1) (k := k2) (a := a2) (b := b2) (d := d2) (p := p2) (q := q2) (e := e2) (r := r2) (s := s2) (f := f2) 27
  obtain ⟨y0, y1, y2, y3, y4, y5, y6, y7, y8, y9⟩ := free10 (w := W1) (k := k2) (a := a2) (b := b2) (d := d2) (p := p2) (q := q2) (e := e2) (r := r2) (s := s2) (f := f2) 27
  have hA : Below W1.heap.size W1 (W1.alloc (.cells #[.int .i64 k2, .int .i64 a2, .int .i64 b2, .string d2, .int .i64 p2, .int .i64 q2, .string e2, .int .i64 r2, .int .i64 s2, .string f2] 27)) := (Below.refl _ _).alloc (Nat.le_refl _) _
  have hz2 : (W1.alloc (.cells #[.int .i64 k2, .int .i64 a2, .int .i64 b2, .string d2, .int .i64 p2, .int .i64 q2, .string e2, .int .i64 r2, .int .i64 s2, .string f2] 27)).heap.size = w.heap.size + 1 + 1 := by simp [hz1]
  rw [hz1] at u0 u1 u2 u3 u4 u5 u6 u7 u8 u9 y0 y1 y2 y3 y4 y5 y6 y7 y8 y9
  replace x0 := bfree hA c0 x0
  replace x1 := bfree hA c1 x1
  replace x2 := bfree hA c2 x2
  replace x3 := bfree hA c3 x3
  replace x4 := bfree hA c4 x4
  replace x5 := bfree hA c5 x5
  replace x6 := bfree hA c6 x6
  replace x7 := bfree hA c7 x7
  replace x8 := bfree hA c8 x8
  replace x9 := bfree hA c9 x9
  replace c0 := bkeep hA c0
  replace c1 := bkeep hA c1
  replace c2 := bkeep hA c2
  replace c3 := bkeep hA c3
  replace c4 := bkeep hA c4
  replace c5 := bkeep hA c5
  replace c6 := bkeep hA c6
  replace c7 := bkeep hA c7
  replace c8 := bkeep hA c8
  replace c9 := bkeep hA c9
  replace HB := bt HB hA
  clear hA
  generalize W1.alloc (.cells #[.int .i64 k2, .int .i64 a2, .int .i64 b2, .string d2, .int .i64 p2, .int .i64 q2, .string e2, .int .i64 r2, .int .i64 s2, .string f2] 27) = W2 at *
  obtain ⟨g0, g1, g2, g3, g4, g5, g6, g7, g8, g9⟩ := held10 (w := W2) (k := 0) (a := 0) (b := 0) (d := ⟨#[]⟩) (p := 0) (q := 0) (e := ⟨#[]⟩) (r := 0) (s := 0) (f := ⟨#[]⟩) 27
  obtain ⟨v0, v1, v2, v3, v4, v5, v6, v7, v8, v9⟩ := free10 (w := W2) (k := 0) (a := 0) (b := 0) (d := ⟨#[]⟩) (p := 0) (q := 0) (e := ⟨#[]⟩) (r := 0) (s := 0) (f := ⟨#[]⟩) 27
  have hA : Below W2.heap.size W2 (W2.alloc (.cells #[.int .i64 0, .int .i64 0, .int .i64 0, .string ⟨#[]⟩, .int .i64 0, .int .i64 0, .string ⟨#[]⟩, .int .i64 0, .int .i64 0, .string ⟨#[]⟩] 27)) := (Below.refl _ _).alloc (Nat.le_refl _) _
  rw [hz2] at g0 g1 g2 g3 g4 g5 g6 g7 g8 g9 v0 v1 v2 v3 v4 v5 v6 v7 v8 v9
  replace x0 := bfree hA c0 x0
  replace x1 := bfree hA c1 x1
  replace x2 := bfree hA c2 x2
  replace x3 := bfree hA c3 x3
  replace x4 := bfree hA c4 x4
  replace x5 := bfree hA c5 x5
  replace x6 := bfree hA c6 x6
  replace x7 := bfree hA c7 x7
  replace x8 := bfree hA c8 x8
  replace x9 := bfree hA c9 x9
  replace c0 := bkeep hA c0
  replace c1 := bkeep hA c1
  replace c2 := bkeep hA c2
  replace c3 := bkeep hA c3
  replace c4 := bkeep hA c4
  replace c5 := bkeep hA c5
  replace c6 := bkeep hA c6
  replace c7 := bkeep hA c7
  replace c8 := bkeep hA c8
  replace c9 := bkeep hA c9
  replace y0 := bfree hA u0 y0
  replace y1 := bfree hA u1 y1
  replace y2 := bfree hA u2 y2
  replace y3 := bfree hA u3 y3
  replace y4 := bfree hA u4 y4
  replace y5 := bfree hA u5 y5
  replace y6 := bfree hA u6 y6
  replace y7 := bfree hA u7 y7
  replace y8 := bfree hA u8 y8
  replace y9 := bfree hA u9 y9
  replace u0 := bkeep hA u0
  replace u1 := bkeep hA u1
  replace u2 := bkeep hA u2
  replace u3 := bkeep hA u3
  replace u4 := bkeep hA u4
  replace u5 := bkeep hA u5
  replace u6 := bkeep hA u6
  replace u7 := bkeep hA u7
  replace u8 := bkeep hA u8
  replace u9 := bkeep hA u9
  replace HB := bt HB hA
  clear hA hz1 hz2
  generalize W2.alloc (.cells #[.int .i64 0, .int .i64 0, .int .i64 0, .string ⟨#[]⟩, .int .i64 0, .int .i64 0, .string ⟨#[]⟩, .int .i64 0, .int .i64 0, .string ⟨#[]⟩] 27) = W3 at *
  refine (compare_any _ _ _ _ _).mono ?_
  rintro e' W4 ⟨rfl, hA⟩
  replace x0 := bfree hA c0 x0
  replace x1 := bfree hA c1 x1
  replace x2 := bfree hA c2 x2
  replace x3 := bfree hA c3 x3
  replace x4 := bfree hA c4 x4
  replace x5 := bfree hA c5 x5
  replace x6 := bfree hA c6 x6
  replace x7 := bfree hA c7 x7
  replace x8 := bfree hA c8 x8
  replace x9 := bfree hA c9 x9
  replace c0 := bkeep hA c0
  replace c1 := bkeep hA c1
  replace c2 := bkeep hA c2
  replace c3 := bkeep hA c3
  replace c4 := bkeep hA c4
  replace c5 := bkeep hA c5
  replace c6 := bkeep hA c6
  replace c7 := bkeep hA c7
  replace c8 := bkeep hA c8
  replace c9 := bkeep hA c9
  replace y0 := bfree hA u0 y0
  replace y1 := bfree hA u1 y1
  replace y2 := bfree hA u2 y2
  replace y3 := bfree hA u3 y3
  replace y4 := bfree hA u4 y4
  replace y5 := bfree hA u5 y5
  replace y6 := bfree hA u6 y6
  replace y7 := bfree hA u7 y7
  replace y8 := bfree hA u8 y8
  replace y9 := bfree hA u9 y9
  replace u0 := bkeep hA u0
  replace u1 := bkeep hA u1
  replace u2 := bkeep hA u2
  replace u3 := bkeep hA u3
  replace u4 := bkeep hA u4
  replace u5 := bkeep hA u5
  replace u6 := bkeep hA u6
  replace u7 := bkeep hA u7
  replace u8 := bkeep hA u8
  replace u9 := bkeep hA u9
  replace v0 := bfree hA g0 v0
  replace v1 := bfree hA g1 v1
  replace v2 := bfree hA g2 v2
  replace v3 := bfree hA g3 v3
  replace v4 := bfree hA g4 v4
  replace v5 := bfree hA g5 v5
  replace v6 := bfree hA g6 v6
  replace v7 := bfree hA g7 v7
  replace v8 := bfree hA g8 v8
  replace v9 := bfree hA g9 v9
  replace g0 := bkeep hA g0
  replace g1 := bkeep hA g1
  replace g2 := bkeep hA g2
  replace g3 := bkeep hA g3
  replace g4 := bkeep hA g4
  replace g5 := bkeep hA g5
  replace g6 := bkeep hA g6
  replace g7 := bkeep hA g7
  replace g8 := bkeep hA g8
  replace g9 := bkeep hA g9
  replace HB := bt HB hA
  rw [hz]
  clear hA hz
  go_wp2
  exact bodyPost_ret (v := SS k2 a2 b2 d2 p2 q2 e2 r2 s2 f2) (by simp [results, Try.results10, go_sem, g0, g1, g2, g3, g4, g5, g6, g7, g8, g9]) rfl ⟨rfl, by repeat (first | with_reducible exact HB | refine Below.setCell ?_ (by first | (simp; done) | (simp; omega)) _ | refine Below.alloc ?_ (by first | (simp; done) | (simp; omega)) _)⟩
set_option maxHeartbeats 12800000 in
theorem join_meet (k a b : Int) (d : ByteArray) (p q : Int) (e : ByteArray) (r s : Int) (f : ByteArray) (k2 a2 b2 : Int) (d2 : ByteArray) (p2 q2 : Int) (e2 : ByteArray) (r2 s2 : Int) (f2 : ByteArray) (w : World) (hz : cmpZ a b a2 b2 = 3) (hl : ¬ a < a2) (t0 t1 : Int) (t2 : ByteArray) (t3 t4 : Int) (t5 : ByteArray) (hs1 : sideS ⟨k, a, b, d, ⟨p, q, e⟩, ⟨r, s, f⟩⟩ 0 = ⟨t0, t1, t2⟩) (hs2 : sideS ⟨k2, a2, b2, d2, ⟨p2, q2, e2⟩, ⟨r2, s2, f2⟩⟩ 1 = ⟨t3, t4, t5⟩) : Calls Try.prog 10 #[SS k a b d p q e r s f, SS k2 a2 b2 d2 p2 q2 e2 r2 s2 f2] w fun e' w' => e' = .returned (SS 1 (mx a a2) (mx b b2) ⟨#[]⟩ t0 t1 t2 t3 t4 t5) ∧ Below w.heap.size w w' := by
  have S1 := Lib.hid (fun w => stSide_at hs1 w)
  have S2 := Lib.hid (fun w => stSide_at hs2 w)
  clear hs1 hs2
  obtain ⟨c0, c1, c2, c3, c4, c5, c6, c7, c8, c9⟩ := held10 (w := w) (k := k) (a := a) (b := b) (d := d) (p := p) (q := q) (e := e) (r := r) (s := s) (f := f) 27
  obtain ⟨x0, x1, x2, x3, x4, x5, x6, x7, x8, x9⟩ := free10 (w := w) (k := k) (a := a) (b := b) (d := d) (p := p) (q := q) (e := e) (r := r) (s := s) (f := f) 27
  have HB : Below w.heap.size w (w.alloc (.cells #[.int .i64 k, .int .i64 a, .int .i64 b, .string d, .int .i64 p, .int .i64 q, .string e, .int .i64 r, .int .i64 s, .string f] 27)) := (Below.refl _ _).alloc (Nat.le_refl _) _
  have hz1 : (w.alloc (.cells #[.int .i64 k, .int .i64 a, .int .i64 b, .string d, .int .i64 p, .int .i64 q, .string e, .int .i64 r, .int .i64 s, .string f] 27)).heap.size = w.heap.size + 1 := by simp
  go_enter Try.func10, Try.ntmps10
  go_wp2_with fail
  generalize w.alloc (.cells #[.int .i64 k, .int .i64 a, .int .i64 b, .string d, .int .i64 p, .int .i64 q, .string e, .int .i64 r, .int .i64 s, .string f] 27) = W1 at *
  obtain ⟨u0, u1, u2, u3, u4, u5, u6, u7, u8, u9⟩ := held10 (w := W1) (k := k2) (a := a2) (b := b2) (d := d2) (p := p2) (q := q2) (e := e2) (r := r2) (s := s2) (f := f2) 27
  obtain ⟨y0, y1, y2, y3, y4, y5, y6, y7, y8, y9⟩ := free10 (w := W1) (k := k2) (a := a2) (b := b2) (d := d2) (p := p2) (q := q2) (e := e2) (r := r2) (s := s2) (f := f2) 27
  have hA : Below W1.heap.size W1 (W1.alloc (.cells #[.int .i64 k2, .int .i64 a2, .int .i64 b2, .string d2, .int .i64 p2, .int .i64 q2, .string e2, .int .i64 r2, .int .i64 s2, .string f2] 27)) := (Below.refl _ _).alloc (Nat.le_refl _) _
  have hz2 : (W1.alloc (.cells #[.int .i64 k2, .int .i64 a2, .int .i64 b2, .string d2, .int .i64 p2, .int .i64 q2, .string e2, .int .i64 r2, .int .i64 s2, .string f2] 27)).heap.size = w.heap.size + 1 + 1 := by simp [hz1]
  rw [hz1] at u0 u1 u2 u3 u4 u5 u6 u7 u8 u9 y0 y1 y2 y3 y4 y5 y6 y7 y8 y9
  replace x0 := bfree hA c0 x0
  replace x1 := bfree hA c1 x1
  replace x2 := bfree hA c2 x2
  replace x3 := bfree hA c3 x3
  replace x4 := bfree hA c4 x4
  replace x5 := bfree hA c5 x5
  replace x6 := bfree hA c6 x6
  replace x7 := bfree hA c7 x7
  replace x8 := bfree hA c8 x8
  replace x9 := bfree hA c9 x9
  replace c0 := bkeep hA c0
  replace c1 := bkeep hA c1
  replace c2 := bkeep hA c2
  replace c3 := bkeep hA c3
  replace c4 := bkeep hA c4
  replace c5 := bkeep hA c5
  replace c6 := bkeep hA c6
  replace c7 := bkeep hA c7
  replace c8 := bkeep hA c8
  replace c9 := bkeep hA c9
  replace HB := bt HB hA
  clear hA
  generalize W1.alloc (.cells #[.int .i64 k2, .int .i64 a2, .int .i64 b2, .string d2, .int .i64 p2, .int .i64 q2, .string e2, .int .i64 r2, .int .i64 s2, .string f2] 27) = W2 at *
  obtain ⟨g0, g1, g2, g3, g4, g5, g6, g7, g8, g9⟩ := held10 (w := W2) (k := 0) (a := 0) (b := 0) (d := ⟨#[]⟩) (p := 0) (q := 0) (e := ⟨#[]⟩) (r := 0) (s := 0) (f := ⟨#[]⟩) 27
  obtain ⟨v0, v1, v2, v3, v4, v5, v6, v7, v8, v9⟩ := free10 (w := W2) (k := 0) (a := 0) (b := 0) (d := ⟨#[]⟩) (p := 0) (q := 0) (e := ⟨#[]⟩) (r := 0) (s := 0) (f := ⟨#[]⟩) 27
  have hA : Below W2.heap.size W2 (W2.alloc (.cells #[.int .i64 0, .int .i64 0, .int .i64 0, .string ⟨#[]⟩, .int .i64 0, .int .i64 0, .string ⟨#[]⟩, .int .i64 0, .int .i64 0, .string ⟨#[]⟩] 27)) := (Below.refl _ _).alloc (Nat.le_refl _) _
  rw [hz2] at g0 g1 g2 g3 g4 g5 g6 g7 g8 g9 v0 v1 v2 v3 v4 v5 v6 v7 v8 v9
  replace x0 := bfree hA c0 x0
  replace x1 := bfree hA c1 x1
  replace x2 := bfree hA c2 x2
  replace x3 := bfree hA c3 x3
  replace x4 := bfree hA c4 x4
  replace x5 := bfree hA c5 x5
  replace x6 := bfree hA c6 x6
  replace x7 := bfree hA c7 x7
  replace x8 := bfree hA c8 x8
  replace x9 := bfree hA c9 x9
  replace c0 := bkeep hA c0
  replace c1 := bkeep hA c1
  replace c2 := bkeep hA c2
  replace c3 := bkeep hA c3
  replace c4 := bkeep hA c4
  replace c5 := bkeep hA c5
  replace c6 := bkeep hA c6
  replace c7 := bkeep hA c7
  replace c8 := bkeep hA c8
  replace c9 := bkeep hA c9
  replace y0 := bfree hA u0 y0
  replace y1 := bfree hA u1 y1
  replace y2 := bfree hA u2 y2
  replace y3 := bfree hA u3 y3
  replace y4 := bfree hA u4 y4
  replace y5 := bfree hA u5 y5
  replace y6 := bfree hA u6 y6
  replace y7 := bfree hA u7 y7
  replace y8 := bfree hA u8 y8
  replace y9 := bfree hA u9 y9
  replace u0 := bkeep hA u0
  replace u1 := bkeep hA u1
  replace u2 := bkeep hA u2
  replace u3 := bkeep hA u3
  replace u4 := bkeep hA u4
  replace u5 := bkeep hA u5
  replace u6 := bkeep hA u6
  replace u7 := bkeep hA u7
  replace u8 := bkeep hA u8
  replace u9 := bkeep hA u9
  replace HB := bt HB hA
  clear hA hz1 hz2
  generalize W2.alloc (.cells #[.int .i64 0, .int .i64 0, .int .i64 0, .string ⟨#[]⟩, .int .i64 0, .int .i64 0, .string ⟨#[]⟩, .int .i64 0, .int .i64 0, .string ⟨#[]⟩] 27) = W3 at *
  refine (compare_any _ _ _ _ _).mono ?_
  rintro e' W4 ⟨rfl, hA⟩
  replace x0 := bfree hA c0 x0
  replace x1 := bfree hA c1 x1
  replace x2 := bfree hA c2 x2
  replace x3 := bfree hA c3 x3
  replace x4 := bfree hA c4 x4
  replace x5 := bfree hA c5 x5
  replace x6 := bfree hA c6 x6
  replace x7 := bfree hA c7 x7
  replace x8 := bfree hA c8 x8
  replace x9 := bfree hA c9 x9
  replace c0 := bkeep hA c0
  replace c1 := bkeep hA c1
  replace c2 := bkeep hA c2
  replace c3 := bkeep hA c3
  replace c4 := bkeep hA c4
  replace c5 := bkeep hA c5
  replace c6 := bkeep hA c6
  replace c7 := bkeep hA c7
  replace c8 := bkeep hA c8
  replace c9 := bkeep hA c9
  replace y0 := bfree hA u0 y0
  replace y1 := bfree hA u1 y1
  replace y2 := bfree hA u2 y2
  replace y3 := bfree hA u3 y3
  replace y4 := bfree hA u4 y4
  replace y5 := bfree hA u5 y5
  replace y6 := bfree hA u6 y6
  replace y7 := bfree hA u7 y7
  replace y8 := bfree hA u8 y8
  replace y9 := bfree hA u9 y9
  replace u0 := bkeep hA u0
  replace u1 := bkeep hA u1
  replace u2 := bkeep hA u2
  replace u3 := bkeep hA u3
  replace u4 := bkeep hA u4
  replace u5 := bkeep hA u5
  replace u6 := bkeep hA u6
  replace u7 := bkeep hA u7
  replace u8 := bkeep hA u8
  replace u9 := bkeep hA u9
  replace v0 := bfree hA g0 v0
  replace v1 := bfree hA g1 v1
  replace v2 := bfree hA g2 v2
  replace v3 := bfree hA g3 v3
  replace v4 := bfree hA g4 v4
  replace v5 := bfree hA g5 v5
  replace v6 := bfree hA g6 v6
  replace v7 := bfree hA g7 v7
  replace v8 := bfree hA g8 v8
  replace v9 := bfree hA g9 v9
  replace g0 := bkeep hA g0
  replace g1 := bkeep hA g1
  replace g2 := bkeep hA g2
  replace g3 := bkeep hA g3
  replace g4 := bkeep hA g4
  replace g5 := bkeep hA g5
  replace g6 := bkeep hA g6
  replace g7 := bkeep hA g7
  replace g8 := bkeep hA g8
  replace g9 := bkeep hA g9
  replace HB := bt HB hA
  rw [hz]
  clear hA hz
  go_wp2_with fail
  clear x0 x1 x2 x3 x4 x5 x6 x7 x8 x9 y0 y1 y2 y3 y4 y5 y6 y7 y8 y9
  replace HB := HB.drew
  refine wp_region_held_drew (S := (fun w' => (w'.cell? ⟨w.heap.size, 0, none⟩ = some (.int .i64 k) ∧ w'.cell? ⟨w.heap.size, 1, none⟩ = some (.int .i64 a) ∧ w'.cell? ⟨w.heap.size, 2, none⟩ = some (.int .i64 b) ∧ w'.cell? ⟨w.heap.size, 3, none⟩ = some (.string d) ∧ w'.cell? ⟨w.heap.size, 4, none⟩ = some (.int .i64 p) ∧ w'.cell? ⟨w.heap.size, 5, none⟩ = some (.int .i64 q) ∧ w'.cell? ⟨w.heap.size, 6, none⟩ = some (.string e) ∧ w'.cell? ⟨w.heap.size, 7, none⟩ = some (.int .i64 r) ∧ w'.cell? ⟨w.heap.size, 8, none⟩ = some (.int .i64 s) ∧ w'.cell? ⟨w.heap.size, 9, none⟩ = some (.string f)) ∧ (w'.cell? ⟨w.heap.size + 1, 0, none⟩ = some (.int .i64 k2) ∧ w'.cell? ⟨w.heap.size + 1, 1, none⟩ = some (.int .i64 a2) ∧ w'.cell? ⟨w.heap.size + 1, 2, none⟩ = some (.int .i64 b2) ∧ w'.cell? ⟨w.heap.size + 1, 3, none⟩ = some (.string d2) ∧ w'.cell? ⟨w.heap.size + 1, 4, none⟩ = some (.int .i64 p2) ∧ w'.cell? ⟨w.heap.size + 1, 5, none⟩ = some (.int .i64 q2) ∧ w'.cell? ⟨w.heap.size + 1, 6, none⟩ = some (.string e2) ∧ w'.cell? ⟨w.heap.size + 1, 7, none⟩ = some (.int .i64 r2) ∧ w'.cell? ⟨w.heap.size + 1, 8, none⟩ = some (.int .i64 s2) ∧ w'.cell? ⟨w.heap.size + 1, 9, none⟩ = some (.string f2)))) (by kernel_rfl) ?_ (fun hHeld => ?_)
  · exact ⟨⟨c0, c1, c2, c3, c4, c5, c6, c7, c8, c9⟩, ⟨u0, u1, u2, u3, u4, u5, u6, u7, u8, u9⟩⟩
  first | (refine tw (i := 0) (v := ?_) ?_ hHeld ?_; rotate_left; focus (intro w hSw; (try dsimp only at hSw); go_simp; (try with_reducible rfl); done)) | refine tn (i := 0) hHeld ?_
  try simp only [Act.put, List.setIfInBounds_toArray, List.set_cons_zero, List.set_cons_succ]
  first | (refine tw (i := 1) (v := ?_) ?_ hHeld ?_; rotate_left; focus (intro w hSw; (try dsimp only at hSw); go_simp; (try with_reducible rfl); done)) | refine tn (i := 1) hHeld ?_
  try simp only [Act.put, List.setIfInBounds_toArray, List.set_cons_zero, List.set_cons_succ]
  first | (refine tw (i := 2) (v := ?_) ?_ hHeld ?_; rotate_left; focus (intro w hSw; (try dsimp only at hSw); go_simp; (try with_reducible rfl); done)) | refine tn (i := 2) hHeld ?_
  try simp only [Act.put, List.setIfInBounds_toArray, List.set_cons_zero, List.set_cons_succ]
  first | (refine tw (i := 3) (v := ?_) ?_ hHeld ?_; rotate_left; focus (intro w hSw; (try dsimp only at hSw); go_simp; (try with_reducible rfl); done)) | refine tn (i := 3) hHeld ?_
  try simp only [Act.put, List.setIfInBounds_toArray, List.set_cons_zero, List.set_cons_succ]
  first | (refine tw (i := 5) (v := ?_) ?_ hHeld ?_; rotate_left; focus (intro w hSw; (try dsimp only at hSw); go_simp; (try with_reducible rfl); done)) | refine tn (i := 5) hHeld ?_
  try simp only [Act.put, List.setIfInBounds_toArray, List.set_cons_zero, List.set_cons_succ]
  first | (refine tw (i := 7) (v := ?_) ?_ hHeld ?_; rotate_left; focus (intro w hSw; (try dsimp only at hSw); go_simp; (try with_reducible rfl); done)) | refine tn (i := 7) hHeld ?_
  try simp only [Act.put, List.setIfInBounds_toArray, List.set_cons_zero, List.set_cons_succ]
  refine call_next (i := 4) (by kernel_rfl) (by rfl) ?_
  intro o ho K hK
  simp only [List.getElem?_toArray, List.getElem?_cons_succ, List.getElem?_cons_zero, Option.some.injEq] at ho
  subst ho
  first | (fail; refine hK.out _ _ ?_ (fun hHeld => ?_)) | (go_simp; first | (with_reducible refine hK.out _ _ ?_ (fun hHeld => ?_)) | ((first | (go_at_call 27; (with_reducible refine (join_any _ _ _ _ _).mono ?_); rintro e' w5 ⟨rfl, hA⟩; replace c0 := bkeep hA c0; replace c1 := bkeep hA c1; replace c2 := bkeep hA c2; replace c3 := bkeep hA c3; replace c4 := bkeep hA c4; replace c5 := bkeep hA c5; replace c6 := bkeep hA c6; replace c7 := bkeep hA c7; replace c8 := bkeep hA c8; replace c9 := bkeep hA c9; replace u0 := bkeep hA u0; replace u1 := bkeep hA u1; replace u2 := bkeep hA u2; replace u3 := bkeep hA u3; replace u4 := bkeep hA u4; replace u5 := bkeep hA u5; replace u6 := bkeep hA u6; replace u7 := bkeep hA u7; replace u8 := bkeep hA u8; replace u9 := bkeep hA u9; replace v0 := bfree hA g0 v0; replace v1 := bfree hA g1 v1; replace v2 := bfree hA g2 v2; replace v3 := bfree hA g3 v3; replace v4 := bfree hA g4 v4; replace v5 := bfree hA g5 v5; replace v6 := bfree hA g6 v6; replace v7 := bfree hA g7 v7; replace v8 := bfree hA g8 v8; replace v9 := bfree hA g9 v9; replace g0 := bkeep hA g0; replace g1 := bkeep hA g1; replace g2 := bkeep hA g2; replace g3 := bkeep hA g3; replace g4 := bkeep hA g4; replace g5 := bkeep hA g5; replace g6 := bkeep hA g6; replace g7 := bkeep hA g7; replace g8 := bkeep hA g8; replace g9 := bkeep hA g9; replace HB := bt HB hA; clear hA) | (go_at_call 28; (with_reducible refine (S1.out _).mono ?_); rintro e' w5 ⟨rfl, hA⟩; replace c0 := bkeep hA c0; replace c1 := bkeep hA c1; replace c2 := bkeep hA c2; replace c3 := bkeep hA c3; replace c4 := bkeep hA c4; replace c5 := bkeep hA c5; replace c6 := bkeep hA c6; replace c7 := bkeep hA c7; replace c8 := bkeep hA c8; replace c9 := bkeep hA c9; replace u0 := bkeep hA u0; replace u1 := bkeep hA u1; replace u2 := bkeep hA u2; replace u3 := bkeep hA u3; replace u4 := bkeep hA u4; replace u5 := bkeep hA u5; replace u6 := bkeep hA u6; replace u7 := bkeep hA u7; replace u8 := bkeep hA u8; replace u9 := bkeep hA u9; replace v0 := bfree hA g0 v0; replace v1 := bfree hA g1 v1; replace v2 := bfree hA g2 v2; replace v3 := bfree hA g3 v3; replace v4 := bfree hA g4 v4; replace v5 := bfree hA g5 v5; replace v6 := bfree hA g6 v6; replace v7 := bfree hA g7 v7; replace v8 := bfree hA g8 v8; replace v9 := bfree hA g9 v9; replace g0 := bkeep hA g0; replace g1 := bkeep hA g1; replace g2 := bkeep hA g2; replace g3 := bkeep hA g3; replace g4 := bkeep hA g4; replace g5 := bkeep hA g5; replace g6 := bkeep hA g6; replace g7 := bkeep hA g7; replace g8 := bkeep hA g8; replace g9 := bkeep hA g9; replace HB := bt HB hA; clear hA) | (go_at_call 28; (with_reducible refine (S2.out _).mono ?_); rintro e' w5 ⟨rfl, hA⟩; replace c0 := bkeep hA c0; replace c1 := bkeep hA c1; replace c2 := bkeep hA c2; replace c3 := bkeep hA c3; replace c4 := bkeep hA c4; replace c5 := bkeep hA c5; replace c6 := bkeep hA c6; replace c7 := bkeep hA c7; replace c8 := bkeep hA c8; replace c9 := bkeep hA c9; replace u0 := bkeep hA u0; replace u1 := bkeep hA u1; replace u2 := bkeep hA u2; replace u3 := bkeep hA u3; replace u4 := bkeep hA u4; replace u5 := bkeep hA u5; replace u6 := bkeep hA u6; replace u7 := bkeep hA u7; replace u8 := bkeep hA u8; replace u9 := bkeep hA u9; replace v0 := bfree hA g0 v0; replace v1 := bfree hA g1 v1; replace v2 := bfree hA g2 v2; replace v3 := bfree hA g3 v3; replace v4 := bfree hA g4 v4; replace v5 := bfree hA g5 v5; replace v6 := bfree hA g6 v6; replace v7 := bfree hA g7 v7; replace v8 := bfree hA g8 v8; replace v9 := bfree hA g9 v9; replace g0 := bkeep hA g0; replace g1 := bkeep hA g1; replace g2 := bkeep hA g2; replace g3 := bkeep hA g3; replace g4 := bkeep hA g4; replace g5 := bkeep hA g5; replace g6 := bkeep hA g6; replace g7 := bkeep hA g7; replace g8 := bkeep hA g8; replace g9 := bkeep hA g9; replace HB := bt HB hA; clear hA)); refine hK.out _ _ ?_ (fun hHeld => ?_)))
  · exact ⟨⟨c0, c1, c2, c3, c4, c5, c6, c7, c8, c9⟩, ⟨u0, u1, u2, u3, u4, u5, u6, u7, u8, u9⟩⟩
  clear hK K
  try simp only [Act.put, List.setIfInBounds_toArray, List.set_cons_zero, List.set_cons_succ]
  refine call_next (i := 6) (by kernel_rfl) (by rfl) ?_
  intro o ho K hK
  simp only [List.getElem?_toArray, List.getElem?_cons_succ, List.getElem?_cons_zero, Option.some.injEq] at ho
  subst ho
  first | (fail; refine hK.out _ _ ?_ (fun hHeld => ?_)) | (go_simp; first | (with_reducible refine hK.out _ _ ?_ (fun hHeld => ?_)) | ((first | (go_at_call 27; (with_reducible refine (join_any _ _ _ _ _).mono ?_); rintro e' w5 ⟨rfl, hA⟩; replace c0 := bkeep hA c0; replace c1 := bkeep hA c1; replace c2 := bkeep hA c2; replace c3 := bkeep hA c3; replace c4 := bkeep hA c4; replace c5 := bkeep hA c5; replace c6 := bkeep hA c6; replace c7 := bkeep hA c7; replace c8 := bkeep hA c8; replace c9 := bkeep hA c9; replace u0 := bkeep hA u0; replace u1 := bkeep hA u1; replace u2 := bkeep hA u2; replace u3 := bkeep hA u3; replace u4 := bkeep hA u4; replace u5 := bkeep hA u5; replace u6 := bkeep hA u6; replace u7 := bkeep hA u7; replace u8 := bkeep hA u8; replace u9 := bkeep hA u9; replace v0 := bfree hA g0 v0; replace v1 := bfree hA g1 v1; replace v2 := bfree hA g2 v2; replace v3 := bfree hA g3 v3; replace v4 := bfree hA g4 v4; replace v5 := bfree hA g5 v5; replace v6 := bfree hA g6 v6; replace v7 := bfree hA g7 v7; replace v8 := bfree hA g8 v8; replace v9 := bfree hA g9 v9; replace g0 := bkeep hA g0; replace g1 := bkeep hA g1; replace g2 := bkeep hA g2; replace g3 := bkeep hA g3; replace g4 := bkeep hA g4; replace g5 := bkeep hA g5; replace g6 := bkeep hA g6; replace g7 := bkeep hA g7; replace g8 := bkeep hA g8; replace g9 := bkeep hA g9; replace HB := bt HB hA; clear hA) | (go_at_call 28; (with_reducible refine (S1.out _).mono ?_); rintro e' w5 ⟨rfl, hA⟩; replace c0 := bkeep hA c0; replace c1 := bkeep hA c1; replace c2 := bkeep hA c2; replace c3 := bkeep hA c3; replace c4 := bkeep hA c4; replace c5 := bkeep hA c5; replace c6 := bkeep hA c6; replace c7 := bkeep hA c7; replace c8 := bkeep hA c8; replace c9 := bkeep hA c9; replace u0 := bkeep hA u0; replace u1 := bkeep hA u1; replace u2 := bkeep hA u2; replace u3 := bkeep hA u3; replace u4 := bkeep hA u4; replace u5 := bkeep hA u5; replace u6 := bkeep hA u6; replace u7 := bkeep hA u7; replace u8 := bkeep hA u8; replace u9 := bkeep hA u9; replace v0 := bfree hA g0 v0; replace v1 := bfree hA g1 v1; replace v2 := bfree hA g2 v2; replace v3 := bfree hA g3 v3; replace v4 := bfree hA g4 v4; replace v5 := bfree hA g5 v5; replace v6 := bfree hA g6 v6; replace v7 := bfree hA g7 v7; replace v8 := bfree hA g8 v8; replace v9 := bfree hA g9 v9; replace g0 := bkeep hA g0; replace g1 := bkeep hA g1; replace g2 := bkeep hA g2; replace g3 := bkeep hA g3; replace g4 := bkeep hA g4; replace g5 := bkeep hA g5; replace g6 := bkeep hA g6; replace g7 := bkeep hA g7; replace g8 := bkeep hA g8; replace g9 := bkeep hA g9; replace HB := bt HB hA; clear hA) | (go_at_call 28; (with_reducible refine (S2.out _).mono ?_); rintro e' w5 ⟨rfl, hA⟩; replace c0 := bkeep hA c0; replace c1 := bkeep hA c1; replace c2 := bkeep hA c2; replace c3 := bkeep hA c3; replace c4 := bkeep hA c4; replace c5 := bkeep hA c5; replace c6 := bkeep hA c6; replace c7 := bkeep hA c7; replace c8 := bkeep hA c8; replace c9 := bkeep hA c9; replace u0 := bkeep hA u0; replace u1 := bkeep hA u1; replace u2 := bkeep hA u2; replace u3 := bkeep hA u3; replace u4 := bkeep hA u4; replace u5 := bkeep hA u5; replace u6 := bkeep hA u6; replace u7 := bkeep hA u7; replace u8 := bkeep hA u8; replace u9 := bkeep hA u9; replace v0 := bfree hA g0 v0; replace v1 := bfree hA g1 v1; replace v2 := bfree hA g2 v2; replace v3 := bfree hA g3 v3; replace v4 := bfree hA g4 v4; replace v5 := bfree hA g5 v5; replace v6 := bfree hA g6 v6; replace v7 := bfree hA g7 v7; replace v8 := bfree hA g8 v8; replace v9 := bfree hA g9 v9; replace g0 := bkeep hA g0; replace g1 := bkeep hA g1; replace g2 := bkeep hA g2; replace g3 := bkeep hA g3; replace g4 := bkeep hA g4; replace g5 := bkeep hA g5; replace g6 := bkeep hA g6; replace g7 := bkeep hA g7; replace g8 := bkeep hA g8; replace g9 := bkeep hA g9; replace HB := bt HB hA; clear hA)); refine hK.out _ _ ?_ (fun hHeld => ?_)))
  · exact ⟨⟨c0, c1, c2, c3, c4, c5, c6, c7, c8, c9⟩, ⟨u0, u1, u2, u3, u4, u5, u6, u7, u8, u9⟩⟩
  clear hK K
  try simp only [Act.put, List.setIfInBounds_toArray, List.set_cons_zero, List.set_cons_succ]
  refine call_next (i := 8) (by kernel_rfl) (by rfl) ?_
  intro o ho K hK
  simp only [List.getElem?_toArray, List.getElem?_cons_succ, List.getElem?_cons_zero, Option.some.injEq] at ho
  subst ho
  first | (fail; refine hK.out _ _ ?_ (fun hHeld => ?_)) | (go_simp; first | (with_reducible refine hK.out _ _ ?_ (fun hHeld => ?_)) | ((first | (go_at_call 27; (with_reducible refine (join_any _ _ _ _ _).mono ?_); rintro e' w5 ⟨rfl, hA⟩; replace c0 := bkeep hA c0; replace c1 := bkeep hA c1; replace c2 := bkeep hA c2; replace c3 := bkeep hA c3; replace c4 := bkeep hA c4; replace c5 := bkeep hA c5; replace c6 := bkeep hA c6; replace c7 := bkeep hA c7; replace c8 := bkeep hA c8; replace c9 := bkeep hA c9; replace u0 := bkeep hA u0; replace u1 := bkeep hA u1; replace u2 := bkeep hA u2; replace u3 := bkeep hA u3; replace u4 := bkeep hA u4; replace u5 := bkeep hA u5; replace u6 := bkeep hA u6; replace u7 := bkeep hA u7; replace u8 := bkeep hA u8; replace u9 := bkeep hA u9; replace v0 := bfree hA g0 v0; replace v1 := bfree hA g1 v1; replace v2 := bfree hA g2 v2; replace v3 := bfree hA g3 v3; replace v4 := bfree hA g4 v4; replace v5 := bfree hA g5 v5; replace v6 := bfree hA g6 v6; replace v7 := bfree hA g7 v7; replace v8 := bfree hA g8 v8; replace v9 := bfree hA g9 v9; replace g0 := bkeep hA g0; replace g1 := bkeep hA g1; replace g2 := bkeep hA g2; replace g3 := bkeep hA g3; replace g4 := bkeep hA g4; replace g5 := bkeep hA g5; replace g6 := bkeep hA g6; replace g7 := bkeep hA g7; replace g8 := bkeep hA g8; replace g9 := bkeep hA g9; replace HB := bt HB hA; clear hA) | (go_at_call 28; (with_reducible refine (S1.out _).mono ?_); rintro e' w5 ⟨rfl, hA⟩; replace c0 := bkeep hA c0; replace c1 := bkeep hA c1; replace c2 := bkeep hA c2; replace c3 := bkeep hA c3; replace c4 := bkeep hA c4; replace c5 := bkeep hA c5; replace c6 := bkeep hA c6; replace c7 := bkeep hA c7; replace c8 := bkeep hA c8; replace c9 := bkeep hA c9; replace u0 := bkeep hA u0; replace u1 := bkeep hA u1; replace u2 := bkeep hA u2; replace u3 := bkeep hA u3; replace u4 := bkeep hA u4; replace u5 := bkeep hA u5; replace u6 := bkeep hA u6; replace u7 := bkeep hA u7; replace u8 := bkeep hA u8; replace u9 := bkeep hA u9; replace v0 := bfree hA g0 v0; replace v1 := bfree hA g1 v1; replace v2 := bfree hA g2 v2; replace v3 := bfree hA g3 v3; replace v4 := bfree hA g4 v4; replace v5 := bfree hA g5 v5; replace v6 := bfree hA g6 v6; replace v7 := bfree hA g7 v7; replace v8 := bfree hA g8 v8; replace v9 := bfree hA g9 v9; replace g0 := bkeep hA g0; replace g1 := bkeep hA g1; replace g2 := bkeep hA g2; replace g3 := bkeep hA g3; replace g4 := bkeep hA g4; replace g5 := bkeep hA g5; replace g6 := bkeep hA g6; replace g7 := bkeep hA g7; replace g8 := bkeep hA g8; replace g9 := bkeep hA g9; replace HB := bt HB hA; clear hA) | (go_at_call 28; (with_reducible refine (S2.out _).mono ?_); rintro e' w5 ⟨rfl, hA⟩; replace c0 := bkeep hA c0; replace c1 := bkeep hA c1; replace c2 := bkeep hA c2; replace c3 := bkeep hA c3; replace c4 := bkeep hA c4; replace c5 := bkeep hA c5; replace c6 := bkeep hA c6; replace c7 := bkeep hA c7; replace c8 := bkeep hA c8; replace c9 := bkeep hA c9; replace u0 := bkeep hA u0; replace u1 := bkeep hA u1; replace u2 := bkeep hA u2; replace u3 := bkeep hA u3; replace u4 := bkeep hA u4; replace u5 := bkeep hA u5; replace u6 := bkeep hA u6; replace u7 := bkeep hA u7; replace u8 := bkeep hA u8; replace u9 := bkeep hA u9; replace v0 := bfree hA g0 v0; replace v1 := bfree hA g1 v1; replace v2 := bfree hA g2 v2; replace v3 := bfree hA g3 v3; replace v4 := bfree hA g4 v4; replace v5 := bfree hA g5 v5; replace v6 := bfree hA g6 v6; replace v7 := bfree hA g7 v7; replace v8 := bfree hA g8 v8; replace v9 := bfree hA g9 v9; replace g0 := bkeep hA g0; replace g1 := bkeep hA g1; replace g2 := bkeep hA g2; replace g3 := bkeep hA g3; replace g4 := bkeep hA g4; replace g5 := bkeep hA g5; replace g6 := bkeep hA g6; replace g7 := bkeep hA g7; replace g8 := bkeep hA g8; replace g9 := bkeep hA g9; replace HB := bt HB hA; clear hA)); refine hK.out _ _ ?_ (fun hHeld => ?_)))
  · exact ⟨⟨c0, c1, c2, c3, c4, c5, c6, c7, c8, c9⟩, ⟨u0, u1, u2, u3, u4, u5, u6, u7, u8, u9⟩⟩
  clear hK K
  try simp only [Act.put, List.setIfInBounds_toArray, List.set_cons_zero, List.set_cons_succ]
  first | (refine tw (i := 9) (v := ?_) ?_ hHeld ?_; rotate_left; focus (intro w hSw; (try dsimp only at hSw); go_simp; (try with_reducible rfl); done)) | refine tn (i := 9) hHeld ?_
  try simp only [Act.put, List.setIfInBounds_toArray, List.set_cons_zero, List.set_cons_succ]
  refine call_next (i := 10) (by kernel_rfl) (by rfl) ?_
  intro o ho K hK
  simp only [List.getElem?_toArray, List.getElem?_cons_succ, List.getElem?_cons_zero, Option.some.injEq] at ho
  subst ho
  first | (fail; refine hK.out _ _ ?_ (fun hHeld => ?_)) | (go_simp; first | (with_reducible refine hK.out _ _ ?_ (fun hHeld => ?_)) | ((first | (go_at_call 27; (with_reducible refine (join_any _ _ _ _ _).mono ?_); rintro e' w5 ⟨rfl, hA⟩; replace c0 := bkeep hA c0; replace c1 := bkeep hA c1; replace c2 := bkeep hA c2; replace c3 := bkeep hA c3; replace c4 := bkeep hA c4; replace c5 := bkeep hA c5; replace c6 := bkeep hA c6; replace c7 := bkeep hA c7; replace c8 := bkeep hA c8; replace c9 := bkeep hA c9; replace u0 := bkeep hA u0; replace u1 := bkeep hA u1; replace u2 := bkeep hA u2; replace u3 := bkeep hA u3; replace u4 := bkeep hA u4; replace u5 := bkeep hA u5; replace u6 := bkeep hA u6; replace u7 := bkeep hA u7; replace u8 := bkeep hA u8; replace u9 := bkeep hA u9; replace v0 := bfree hA g0 v0; replace v1 := bfree hA g1 v1; replace v2 := bfree hA g2 v2; replace v3 := bfree hA g3 v3; replace v4 := bfree hA g4 v4; replace v5 := bfree hA g5 v5; replace v6 := bfree hA g6 v6; replace v7 := bfree hA g7 v7; replace v8 := bfree hA g8 v8; replace v9 := bfree hA g9 v9; replace g0 := bkeep hA g0; replace g1 := bkeep hA g1; replace g2 := bkeep hA g2; replace g3 := bkeep hA g3; replace g4 := bkeep hA g4; replace g5 := bkeep hA g5; replace g6 := bkeep hA g6; replace g7 := bkeep hA g7; replace g8 := bkeep hA g8; replace g9 := bkeep hA g9; replace HB := bt HB hA; clear hA) | (go_at_call 28; (with_reducible refine (S1.out _).mono ?_); rintro e' w5 ⟨rfl, hA⟩; replace c0 := bkeep hA c0; replace c1 := bkeep hA c1; replace c2 := bkeep hA c2; replace c3 := bkeep hA c3; replace c4 := bkeep hA c4; replace c5 := bkeep hA c5; replace c6 := bkeep hA c6; replace c7 := bkeep hA c7; replace c8 := bkeep hA c8; replace c9 := bkeep hA c9; replace u0 := bkeep hA u0; replace u1 := bkeep hA u1; replace u2 := bkeep hA u2; replace u3 := bkeep hA u3; replace u4 := bkeep hA u4; replace u5 := bkeep hA u5; replace u6 := bkeep hA u6; replace u7 := bkeep hA u7; replace u8 := bkeep hA u8; replace u9 := bkeep hA u9; replace v0 := bfree hA g0 v0; replace v1 := bfree hA g1 v1; replace v2 := bfree hA g2 v2; replace v3 := bfree hA g3 v3; replace v4 := bfree hA g4 v4; replace v5 := bfree hA g5 v5; replace v6 := bfree hA g6 v6; replace v7 := bfree hA g7 v7; replace v8 := bfree hA g8 v8; replace v9 := bfree hA g9 v9; replace g0 := bkeep hA g0; replace g1 := bkeep hA g1; replace g2 := bkeep hA g2; replace g3 := bkeep hA g3; replace g4 := bkeep hA g4; replace g5 := bkeep hA g5; replace g6 := bkeep hA g6; replace g7 := bkeep hA g7; replace g8 := bkeep hA g8; replace g9 := bkeep hA g9; replace HB := bt HB hA; clear hA) | (go_at_call 28; (with_reducible refine (S2.out _).mono ?_); rintro e' w5 ⟨rfl, hA⟩; replace c0 := bkeep hA c0; replace c1 := bkeep hA c1; replace c2 := bkeep hA c2; replace c3 := bkeep hA c3; replace c4 := bkeep hA c4; replace c5 := bkeep hA c5; replace c6 := bkeep hA c6; replace c7 := bkeep hA c7; replace c8 := bkeep hA c8; replace c9 := bkeep hA c9; replace u0 := bkeep hA u0; replace u1 := bkeep hA u1; replace u2 := bkeep hA u2; replace u3 := bkeep hA u3; replace u4 := bkeep hA u4; replace u5 := bkeep hA u5; replace u6 := bkeep hA u6; replace u7 := bkeep hA u7; replace u8 := bkeep hA u8; replace u9 := bkeep hA u9; replace v0 := bfree hA g0 v0; replace v1 := bfree hA g1 v1; replace v2 := bfree hA g2 v2; replace v3 := bfree hA g3 v3; replace v4 := bfree hA g4 v4; replace v5 := bfree hA g5 v5; replace v6 := bfree hA g6 v6; replace v7 := bfree hA g7 v7; replace v8 := bfree hA g8 v8; replace v9 := bfree hA g9 v9; replace g0 := bkeep hA g0; replace g1 := bkeep hA g1; replace g2 := bkeep hA g2; replace g3 := bkeep hA g3; replace g4 := bkeep hA g4; replace g5 := bkeep hA g5; replace g6 := bkeep hA g6; replace g7 := bkeep hA g7; replace g8 := bkeep hA g8; replace g9 := bkeep hA g9; replace HB := bt HB hA; clear hA)); refine hK.out _ _ ?_ (fun hHeld => ?_)))
  · first | (with_reducible exact True.intro) | ((try simp only [World.cell?_drew] at *); repeat' (first | (with_reducible assumption) | (with_reducible refine And.intro ?_ ?_) | (refine cell_set_ne ?_ (by first | (simp; done) | (simp; omega))) | (refine bkeep (bdraws0 _ _) ?_; with_reducible assumption)))
  clear hK K
  try simp only [Act.put, List.setIfInBounds_toArray, List.set_cons_zero, List.set_cons_succ]
  refine wpAnyH_done (by kernel_rfl) ?_ _
  go_wp2
  exact bodyPost_ret (v := SS 1 (mx a a2) (mx b b2) ⟨#[]⟩ t0 t1 t2 t3 t4 t5) (by simp [results, Try.results10, go_sem, g0, g1, g2, g3, g4, g5, g6, g7, g8, g9]) rfl ⟨rfl, by repeat (first | with_reducible exact HB | refine Below.setCell ?_ (by first | (simp; done) | (simp; omega)) _ | refine Below.alloc ?_ (by first | (simp; done) | (simp; omega)) _)⟩
set_option maxHeartbeats 12800000 in
theorem join_swap (k a b : Int) (d : ByteArray) (p q : Int) (e : ByteArray) (r s : Int) (f : ByteArray) (k2 a2 b2 : Int) (d2 : ByteArray) (p2 q2 : Int) (e2 : ByteArray) (r2 s2 : Int) (f2 : ByteArray) (w : World) (hz : cmpZ a b a2 b2 = 3) (hl : a < a2) (t0 t1 : Int) (t2 : ByteArray) (t3 t4 : Int) (t5 : ByteArray) (hs1 : sideS ⟨k2, a2, b2, d2, ⟨p2, q2, e2⟩, ⟨r2, s2, f2⟩⟩ 0 = ⟨t0, t1, t2⟩) (hs2 : sideS ⟨k, a, b, d, ⟨p, q, e⟩, ⟨r, s, f⟩⟩ 1 = ⟨t3, t4, t5⟩) : Calls Try.prog 10 #[SS k a b d p q e r s f, SS k2 a2 b2 d2 p2 q2 e2 r2 s2 f2] w fun e' w' => e' = .returned (SS 1 (mx a2 a) (mx b2 b) ⟨#[]⟩ t0 t1 t2 t3 t4 t5) ∧ Below w.heap.size w w' := by
  have S1 := Lib.hid (fun w => stSide_at hs1 w)
  have S2 := Lib.hid (fun w => stSide_at hs2 w)
  clear hs1 hs2
  obtain ⟨c0, c1, c2, c3, c4, c5, c6, c7, c8, c9⟩ := held10 (w := w) (k := k) (a := a) (b := b) (d := d) (p := p) (q := q) (e := e) (r := r) (s := s) (f := f) 27
  obtain ⟨x0, x1, x2, x3, x4, x5, x6, x7, x8, x9⟩ := free10 (w := w) (k := k) (a := a) (b := b) (d := d) (p := p) (q := q) (e := e) (r := r) (s := s) (f := f) 27
  have HB : Below w.heap.size w (w.alloc (.cells #[.int .i64 k, .int .i64 a, .int .i64 b, .string d, .int .i64 p, .int .i64 q, .string e, .int .i64 r, .int .i64 s, .string f] 27)) := (Below.refl _ _).alloc (Nat.le_refl _) _
  have hz1 : (w.alloc (.cells #[.int .i64 k, .int .i64 a, .int .i64 b, .string d, .int .i64 p, .int .i64 q, .string e, .int .i64 r, .int .i64 s, .string f] 27)).heap.size = w.heap.size + 1 := by simp
  go_enter Try.func10, Try.ntmps10
  go_wp2_with fail
  generalize w.alloc (.cells #[.int .i64 k, .int .i64 a, .int .i64 b, .string d, .int .i64 p, .int .i64 q, .string e, .int .i64 r, .int .i64 s, .string f] 27) = W1 at *
  obtain ⟨u0, u1, u2, u3, u4, u5, u6, u7, u8, u9⟩ := held10 (w := W1) (k := k2) (a := a2) (b := b2) (d := d2) (p := p2) (q := q2) (e := e2) (r := r2) (s := s2) (f := f2) 27
  obtain ⟨y0, y1, y2, y3, y4, y5, y6, y7, y8, y9⟩ := free10 (w := W1) (k := k2) (a := a2) (b := b2) (d := d2) (p := p2) (q := q2) (e := e2) (r := r2) (s := s2) (f := f2) 27
  have hA : Below W1.heap.size W1 (W1.alloc (.cells #[.int .i64 k2, .int .i64 a2, .int .i64 b2, .string d2, .int .i64 p2, .int .i64 q2, .string e2, .int .i64 r2, .int .i64 s2, .string f2] 27)) := (Below.refl _ _).alloc (Nat.le_refl _) _
  have hz2 : (W1.alloc (.cells #[.int .i64 k2, .int .i64 a2, .int .i64 b2, .string d2, .int .i64 p2, .int .i64 q2, .string e2, .int .i64 r2, .int .i64 s2, .string f2] 27)).heap.size = w.heap.size + 1 + 1 := by simp [hz1]
  rw [hz1] at u0 u1 u2 u3 u4 u5 u6 u7 u8 u9 y0 y1 y2 y3 y4 y5 y6 y7 y8 y9
  replace x0 := bfree hA c0 x0
  replace x1 := bfree hA c1 x1
  replace x2 := bfree hA c2 x2
  replace x3 := bfree hA c3 x3
  replace x4 := bfree hA c4 x4
  replace x5 := bfree hA c5 x5
  replace x6 := bfree hA c6 x6
  replace x7 := bfree hA c7 x7
  replace x8 := bfree hA c8 x8
  replace x9 := bfree hA c9 x9
  replace c0 := bkeep hA c0
  replace c1 := bkeep hA c1
  replace c2 := bkeep hA c2
  replace c3 := bkeep hA c3
  replace c4 := bkeep hA c4
  replace c5 := bkeep hA c5
  replace c6 := bkeep hA c6
  replace c7 := bkeep hA c7
  replace c8 := bkeep hA c8
  replace c9 := bkeep hA c9
  replace HB := bt HB hA
  clear hA
  generalize W1.alloc (.cells #[.int .i64 k2, .int .i64 a2, .int .i64 b2, .string d2, .int .i64 p2, .int .i64 q2, .string e2, .int .i64 r2, .int .i64 s2, .string f2] 27) = W2 at *
  obtain ⟨g0, g1, g2, g3, g4, g5, g6, g7, g8, g9⟩ := held10 (w := W2) (k := 0) (a := 0) (b := 0) (d := ⟨#[]⟩) (p := 0) (q := 0) (e := ⟨#[]⟩) (r := 0) (s := 0) (f := ⟨#[]⟩) 27
  obtain ⟨v0, v1, v2, v3, v4, v5, v6, v7, v8, v9⟩ := free10 (w := W2) (k := 0) (a := 0) (b := 0) (d := ⟨#[]⟩) (p := 0) (q := 0) (e := ⟨#[]⟩) (r := 0) (s := 0) (f := ⟨#[]⟩) 27
  have hA : Below W2.heap.size W2 (W2.alloc (.cells #[.int .i64 0, .int .i64 0, .int .i64 0, .string ⟨#[]⟩, .int .i64 0, .int .i64 0, .string ⟨#[]⟩, .int .i64 0, .int .i64 0, .string ⟨#[]⟩] 27)) := (Below.refl _ _).alloc (Nat.le_refl _) _
  rw [hz2] at g0 g1 g2 g3 g4 g5 g6 g7 g8 g9 v0 v1 v2 v3 v4 v5 v6 v7 v8 v9
  replace x0 := bfree hA c0 x0
  replace x1 := bfree hA c1 x1
  replace x2 := bfree hA c2 x2
  replace x3 := bfree hA c3 x3
  replace x4 := bfree hA c4 x4
  replace x5 := bfree hA c5 x5
  replace x6 := bfree hA c6 x6
  replace x7 := bfree hA c7 x7
  replace x8 := bfree hA c8 x8
  replace x9 := bfree hA c9 x9
  replace c0 := bkeep hA c0
  replace c1 := bkeep hA c1
  replace c2 := bkeep hA c2
  replace c3 := bkeep hA c3
  replace c4 := bkeep hA c4
  replace c5 := bkeep hA c5
  replace c6 := bkeep hA c6
  replace c7 := bkeep hA c7
  replace c8 := bkeep hA c8
  replace c9 := bkeep hA c9
  replace y0 := bfree hA u0 y0
  replace y1 := bfree hA u1 y1
  replace y2 := bfree hA u2 y2
  replace y3 := bfree hA u3 y3
  replace y4 := bfree hA u4 y4
  replace y5 := bfree hA u5 y5
  replace y6 := bfree hA u6 y6
  replace y7 := bfree hA u7 y7
  replace y8 := bfree hA u8 y8
  replace y9 := bfree hA u9 y9
  replace u0 := bkeep hA u0
  replace u1 := bkeep hA u1
  replace u2 := bkeep hA u2
  replace u3 := bkeep hA u3
  replace u4 := bkeep hA u4
  replace u5 := bkeep hA u5
  replace u6 := bkeep hA u6
  replace u7 := bkeep hA u7
  replace u8 := bkeep hA u8
  replace u9 := bkeep hA u9
  replace HB := bt HB hA
  clear hA hz1 hz2
  generalize W2.alloc (.cells #[.int .i64 0, .int .i64 0, .int .i64 0, .string ⟨#[]⟩, .int .i64 0, .int .i64 0, .string ⟨#[]⟩, .int .i64 0, .int .i64 0, .string ⟨#[]⟩] 27) = W3 at *
  refine (compare_any _ _ _ _ _).mono ?_
  rintro e' W4 ⟨rfl, hA⟩
  replace x0 := bfree hA c0 x0
  replace x1 := bfree hA c1 x1
  replace x2 := bfree hA c2 x2
  replace x3 := bfree hA c3 x3
  replace x4 := bfree hA c4 x4
  replace x5 := bfree hA c5 x5
  replace x6 := bfree hA c6 x6
  replace x7 := bfree hA c7 x7
  replace x8 := bfree hA c8 x8
  replace x9 := bfree hA c9 x9
  replace c0 := bkeep hA c0
  replace c1 := bkeep hA c1
  replace c2 := bkeep hA c2
  replace c3 := bkeep hA c3
  replace c4 := bkeep hA c4
  replace c5 := bkeep hA c5
  replace c6 := bkeep hA c6
  replace c7 := bkeep hA c7
  replace c8 := bkeep hA c8
  replace c9 := bkeep hA c9
  replace y0 := bfree hA u0 y0
  replace y1 := bfree hA u1 y1
  replace y2 := bfree hA u2 y2
  replace y3 := bfree hA u3 y3
  replace y4 := bfree hA u4 y4
  replace y5 := bfree hA u5 y5
  replace y6 := bfree hA u6 y6
  replace y7 := bfree hA u7 y7
  replace y8 := bfree hA u8 y8
  replace y9 := bfree hA u9 y9
  replace u0 := bkeep hA u0
  replace u1 := bkeep hA u1
  replace u2 := bkeep hA u2
  replace u3 := bkeep hA u3
  replace u4 := bkeep hA u4
  replace u5 := bkeep hA u5
  replace u6 := bkeep hA u6
  replace u7 := bkeep hA u7
  replace u8 := bkeep hA u8
  replace u9 := bkeep hA u9
  replace v0 := bfree hA g0 v0
  replace v1 := bfree hA g1 v1
  replace v2 := bfree hA g2 v2
  replace v3 := bfree hA g3 v3
  replace v4 := bfree hA g4 v4
  replace v5 := bfree hA g5 v5
  replace v6 := bfree hA g6 v6
  replace v7 := bfree hA g7 v7
  replace v8 := bfree hA g8 v8
  replace v9 := bfree hA g9 v9
  replace g0 := bkeep hA g0
  replace g1 := bkeep hA g1
  replace g2 := bkeep hA g2
  replace g3 := bkeep hA g3
  replace g4 := bkeep hA g4
  replace g5 := bkeep hA g5
  replace g6 := bkeep hA g6
  replace g7 := bkeep hA g7
  replace g8 := bkeep hA g8
  replace g9 := bkeep hA g9
  replace HB := bt HB hA
  rw [hz]
  clear hA hz
  go_wp2_with fail
  obtain ⟨SW, hSW⟩ : ∃ SW, SW = ((((((((((((((((((((W4).setCell ⟨w.heap.size, 0, none⟩ (.int .i64 k2)).setCell ⟨w.heap.size, 1, none⟩ (.int .i64 a2)).setCell ⟨w.heap.size, 2, none⟩ (.int .i64 b2)).setCell ⟨w.heap.size, 3, none⟩ (.string d2)).setCell ⟨w.heap.size, 4, none⟩ (.int .i64 p2)).setCell ⟨w.heap.size, 5, none⟩ (.int .i64 q2)).setCell ⟨w.heap.size, 6, none⟩ (.string e2)).setCell ⟨w.heap.size, 7, none⟩ (.int .i64 r2)).setCell ⟨w.heap.size, 8, none⟩ (.int .i64 s2)).setCell ⟨w.heap.size, 9, none⟩ (.string f2)).setCell ⟨w.heap.size + 1, 0, none⟩ (.int .i64 k)).setCell ⟨w.heap.size + 1, 1, none⟩ (.int .i64 a)).setCell ⟨w.heap.size + 1, 2, none⟩ (.int .i64 b)).setCell ⟨w.heap.size + 1, 3, none⟩ (.string d)).setCell ⟨w.heap.size + 1, 4, none⟩ (.int .i64 p)).setCell ⟨w.heap.size + 1, 5, none⟩ (.int .i64 q)).setCell ⟨w.heap.size + 1, 6, none⟩ (.string e)).setCell ⟨w.heap.size + 1, 7, none⟩ (.int .i64 r)).setCell ⟨w.heap.size + 1, 8, none⟩ (.int .i64 s)).setCell ⟨w.heap.size + 1, 9, none⟩ (.string f) := ⟨_, rfl⟩
  rw [← hSW]
  have C0 : SW.cell? ⟨w.heap.size, 0, none⟩ = some (.int .i64 k2) := by rw [hSW]; exact (cell_set_ne (cell_set_ne (cell_set_ne (cell_set_ne (cell_set_ne (cell_set_ne (cell_set_ne (cell_set_ne (cell_set_ne (cell_set_ne (cell_set_off (cell_set_off (cell_set_off (cell_set_off (cell_set_off (cell_set_off (cell_set_off (cell_set_off (cell_set_off (cell_set_same c0) (by decide)) (by decide)) (by decide)) (by decide)) (by decide)) (by decide)) (by decide)) (by decide)) (by decide)) (by first | (simp; done) | (simp; omega))) (by first | (simp; done) | (simp; omega))) (by first | (simp; done) | (simp; omega))) (by first | (simp; done) | (simp; omega))) (by first | (simp; done) | (simp; omega))) (by first | (simp; done) | (simp; omega))) (by first | (simp; done) | (simp; omega))) (by first | (simp; done) | (simp; omega))) (by first | (simp; done) | (simp; omega))) (by first | (simp; done) | (simp; omega)))
  have C1 : SW.cell? ⟨w.heap.size, 1, none⟩ = some (.int .i64 a2) := by rw [hSW]; exact (cell_set_ne (cell_set_ne (cell_set_ne (cell_set_ne (cell_set_ne (cell_set_ne (cell_set_ne (cell_set_ne (cell_set_ne (cell_set_ne (cell_set_off (cell_set_off (cell_set_off (cell_set_off (cell_set_off (cell_set_off (cell_set_off (cell_set_off (cell_set_same (cell_set_off c1 (by decide))) (by decide)) (by decide)) (by decide)) (by decide)) (by decide)) (by decide)) (by decide)) (by decide)) (by first | (simp; done) | (simp; omega))) (by first | (simp; done) | (simp; omega))) (by first | (simp; done) | (simp; omega))) (by first | (simp; done) | (simp; omega))) (by first | (simp; done) | (simp; omega))) (by first | (simp; done) | (simp; omega))) (by first | (simp; done) | (simp; omega))) (by first | (simp; done) | (simp; omega))) (by first | (simp; done) | (simp; omega))) (by first | (simp; done) | (simp; omega)))
  have C2 : SW.cell? ⟨w.heap.size, 2, none⟩ = some (.int .i64 b2) := by rw [hSW]; exact (cell_set_ne (cell_set_ne (cell_set_ne (cell_set_ne (cell_set_ne (cell_set_ne (cell_set_ne (cell_set_ne (cell_set_ne (cell_set_ne (cell_set_off (cell_set_off (cell_set_off (cell_set_off (cell_set_off (cell_set_off (cell_set_off (cell_set_same (cell_set_off (cell_set_off c2 (by decide)) (by decide))) (by decide)) (by decide)) (by decide)) (by decide)) (by decide)) (by decide)) (by decide)) (by first | (simp; done) | (simp; omega))) (by first | (simp; done) | (simp; omega))) (by first | (simp; done) | (simp; omega))) (by first | (simp; done) | (simp; omega))) (by first | (simp; done) | (simp; omega))) (by first | (simp; done) | (simp; omega))) (by first | (simp; done) | (simp; omega))) (by first | (simp; done) | (simp; omega))) (by first | (simp; done) | (simp; omega))) (by first | (simp; done) | (simp; omega)))
  have C3 : SW.cell? ⟨w.heap.size, 3, none⟩ = some (.string d2) := by rw [hSW]; exact (cell_set_ne (cell_set_ne (cell_set_ne (cell_set_ne (cell_set_ne (cell_set_ne (cell_set_ne (cell_set_ne (cell_set_ne (cell_set_ne (cell_set_off (cell_set_off (cell_set_off (cell_set_off (cell_set_off (cell_set_off (cell_set_same (cell_set_off (cell_set_off (cell_set_off c3 (by decide)) (by decide)) (by decide))) (by decide)) (by decide)) (by decide)) (by decide)) (by decide)) (by decide)) (by first | (simp; done) | (simp; omega))) (by first | (simp; done) | (simp; omega))) (by first | (simp; done) | (simp; omega))) (by first | (simp; done) | (simp; omega))) (by first | (simp; done) | (simp; omega))) (by first | (simp; done) | (simp; omega))) (by first | (simp; done) | (simp; omega))) (by first | (simp; done) | (simp; omega))) (by first | (simp; done) | (simp; omega))) (by first | (simp; done) | (simp; omega)))
  have C4 : SW.cell? ⟨w.heap.size, 4, none⟩ = some (.int .i64 p2) := by rw [hSW]; exact (cell_set_ne (cell_set_ne (cell_set_ne (cell_set_ne (cell_set_ne (cell_set_ne (cell_set_ne (cell_set_ne (cell_set_ne (cell_set_ne (cell_set_off (cell_set_off (cell_set_off (cell_set_off (cell_set_off (cell_set_same (cell_set_off (cell_set_off (cell_set_off (cell_set_off c4 (by decide)) (by decide)) (by decide)) (by decide))) (by decide)) (by decide)) (by decide)) (by decide)) (by decide)) (by first | (simp; done) | (simp; omega))) (by first | (simp; done) | (simp; omega))) (by first | (simp; done) | (simp; omega))) (by first | (simp; done) | (simp; omega))) (by first | (simp; done) | (simp; omega))) (by first | (simp; done) | (simp; omega))) (by first | (simp; done) | (simp; omega))) (by first | (simp; done) | (simp; omega))) (by first | (simp; done) | (simp; omega))) (by first | (simp; done) | (simp; omega)))
  have C5 : SW.cell? ⟨w.heap.size, 5, none⟩ = some (.int .i64 q2) := by rw [hSW]; exact (cell_set_ne (cell_set_ne (cell_set_ne (cell_set_ne (cell_set_ne (cell_set_ne (cell_set_ne (cell_set_ne (cell_set_ne (cell_set_ne (cell_set_off (cell_set_off (cell_set_off (cell_set_off (cell_set_same (cell_set_off (cell_set_off (cell_set_off (cell_set_off (cell_set_off c5 (by decide)) (by decide)) (by decide)) (by decide)) (by decide))) (by decide)) (by decide)) (by decide)) (by decide)) (by first | (simp; done) | (simp; omega))) (by first | (simp; done) | (simp; omega))) (by first | (simp; done) | (simp; omega))) (by first | (simp; done) | (simp; omega))) (by first | (simp; done) | (simp; omega))) (by first | (simp; done) | (simp; omega))) (by first | (simp; done) | (simp; omega))) (by first | (simp; done) | (simp; omega))) (by first | (simp; done) | (simp; omega))) (by first | (simp; done) | (simp; omega)))
  have C6 : SW.cell? ⟨w.heap.size, 6, none⟩ = some (.string e2) := by rw [hSW]; exact (cell_set_ne (cell_set_ne (cell_set_ne (cell_set_ne (cell_set_ne (cell_set_ne (cell_set_ne (cell_set_ne (cell_set_ne (cell_set_ne (cell_set_off (cell_set_off (cell_set_off (cell_set_same (cell_set_off (cell_set_off (cell_set_off (cell_set_off (cell_set_off (cell_set_off c6 (by decide)) (by decide)) (by decide)) (by decide)) (by decide)) (by decide))) (by decide)) (by decide)) (by decide)) (by first | (simp; done) | (simp; omega))) (by first | (simp; done) | (simp; omega))) (by first | (simp; done) | (simp; omega))) (by first | (simp; done) | (simp; omega))) (by first | (simp; done) | (simp; omega))) (by first | (simp; done) | (simp; omega))) (by first | (simp; done) | (simp; omega))) (by first | (simp; done) | (simp; omega))) (by first | (simp; done) | (simp; omega))) (by first | (simp; done) | (simp; omega)))
  have C7 : SW.cell? ⟨w.heap.size, 7, none⟩ = some (.int .i64 r2) := by rw [hSW]; exact (cell_set_ne (cell_set_ne (cell_set_ne (cell_set_ne (cell_set_ne (cell_set_ne (cell_set_ne (cell_set_ne (cell_set_ne (cell_set_ne (cell_set_off (cell_set_off (cell_set_same (cell_set_off (cell_set_off (cell_set_off (cell_set_off (cell_set_off (cell_set_off (cell_set_off c7 (by decide)) (by decide)) (by decide)) (by decide)) (by decide)) (by decide)) (by decide))) (by decide)) (by decide)) (by first | (simp; done) | (simp; omega))) (by first | (simp; done) | (simp; omega))) (by first | (simp; done) | (simp; omega))) (by first | (simp; done) | (simp; omega))) (by first | (simp; done) | (simp; omega))) (by first | (simp; done) | (simp; omega))) (by first | (simp; done) | (simp; omega))) (by first | (simp; done) | (simp; omega))) (by first | (simp; done) | (simp; omega))) (by first | (simp; done) | (simp; omega)))
  have C8 : SW.cell? ⟨w.heap.size, 8, none⟩ = some (.int .i64 s2) := by rw [hSW]; exact (cell_set_ne (cell_set_ne (cell_set_ne (cell_set_ne (cell_set_ne (cell_set_ne (cell_set_ne (cell_set_ne (cell_set_ne (cell_set_ne (cell_set_off (cell_set_same (cell_set_off (cell_set_off (cell_set_off (cell_set_off (cell_set_off (cell_set_off (cell_set_off (cell_set_off c8 (by decide)) (by decide)) (by decide)) (by decide)) (by decide)) (by decide)) (by decide)) (by decide))) (by decide)) (by first | (simp; done) | (simp; omega))) (by first | (simp; done) | (simp; omega))) (by first | (simp; done) | (simp; omega))) (by first | (simp; done) | (simp; omega))) (by first | (simp; done) | (simp; omega))) (by first | (simp; done) | (simp; omega))) (by first | (simp; done) | (simp; omega))) (by first | (simp; done) | (simp; omega))) (by first | (simp; done) | (simp; omega))) (by first | (simp; done) | (simp; omega)))
  have C9 : SW.cell? ⟨w.heap.size, 9, none⟩ = some (.string f2) := by rw [hSW]; exact (cell_set_ne (cell_set_ne (cell_set_ne (cell_set_ne (cell_set_ne (cell_set_ne (cell_set_ne (cell_set_ne (cell_set_ne (cell_set_ne (cell_set_same (cell_set_off (cell_set_off (cell_set_off (cell_set_off (cell_set_off (cell_set_off (cell_set_off (cell_set_off (cell_set_off c9 (by decide)) (by decide)) (by decide)) (by decide)) (by decide)) (by decide)) (by decide)) (by decide)) (by decide))) (by first | (simp; done) | (simp; omega))) (by first | (simp; done) | (simp; omega))) (by first | (simp; done) | (simp; omega))) (by first | (simp; done) | (simp; omega))) (by first | (simp; done) | (simp; omega))) (by first | (simp; done) | (simp; omega))) (by first | (simp; done) | (simp; omega))) (by first | (simp; done) | (simp; omega))) (by first | (simp; done) | (simp; omega))) (by first | (simp; done) | (simp; omega)))
  have U0 : SW.cell? ⟨w.heap.size + 1, 0, none⟩ = some (.int .i64 k) := by rw [hSW]; exact (cell_set_off (cell_set_off (cell_set_off (cell_set_off (cell_set_off (cell_set_off (cell_set_off (cell_set_off (cell_set_off (cell_set_same (cell_set_ne (cell_set_ne (cell_set_ne (cell_set_ne (cell_set_ne (cell_set_ne (cell_set_ne (cell_set_ne (cell_set_ne (cell_set_ne u0 (by first | (simp; done) | (simp; omega))) (by first | (simp; done) | (simp; omega))) (by first | (simp; done) | (simp; omega))) (by first | (simp; done) | (simp; omega))) (by first | (simp; done) | (simp; omega))) (by first | (simp; done) | (simp; omega))) (by first | (simp; done) | (simp; omega))) (by first | (simp; done) | (simp; omega))) (by first | (simp; done) | (simp; omega))) (by first | (simp; done) | (simp; omega)))) (by decide)) (by decide)) (by decide)) (by decide)) (by decide)) (by decide)) (by decide)) (by decide)) (by decide))
  have U1 : SW.cell? ⟨w.heap.size + 1, 1, none⟩ = some (.int .i64 a) := by rw [hSW]; exact (cell_set_off (cell_set_off (cell_set_off (cell_set_off (cell_set_off (cell_set_off (cell_set_off (cell_set_off (cell_set_same (cell_set_off (cell_set_ne (cell_set_ne (cell_set_ne (cell_set_ne (cell_set_ne (cell_set_ne (cell_set_ne (cell_set_ne (cell_set_ne (cell_set_ne u1 (by first | (simp; done) | (simp; omega))) (by first | (simp; done) | (simp; omega))) (by first | (simp; done) | (simp; omega))) (by first | (simp; done) | (simp; omega))) (by first | (simp; done) | (simp; omega))) (by first | (simp; done) | (simp; omega))) (by first | (simp; done) | (simp; omega))) (by first | (simp; done) | (simp; omega))) (by first | (simp; done) | (simp; omega))) (by first | (simp; done) | (simp; omega))) (by decide))) (by decide)) (by decide)) (by decide)) (by decide)) (by decide)) (by decide)) (by decide)) (by decide))
  have U2 : SW.cell? ⟨w.heap.size + 1, 2, none⟩ = some (.int .i64 b) := by rw [hSW]; exact (cell_set_off (cell_set_off (cell_set_off (cell_set_off (cell_set_off (cell_set_off (cell_set_off (cell_set_same (cell_set_off (cell_set_off (cell_set_ne (cell_set_ne (cell_set_ne (cell_set_ne (cell_set_ne (cell_set_ne (cell_set_ne (cell_set_ne (cell_set_ne (cell_set_ne u2 (by first | (simp; done) | (simp; omega))) (by first | (simp; done) | (simp; omega))) (by first | (simp; done) | (simp; omega))) (by first | (simp; done) | (simp; omega))) (by first | (simp; done) | (simp; omega))) (by first | (simp; done) | (simp; omega))) (by first | (simp; done) | (simp; omega))) (by first | (simp; done) | (simp; omega))) (by first | (simp; done) | (simp; omega))) (by first | (simp; done) | (simp; omega))) (by decide)) (by decide))) (by decide)) (by decide)) (by decide)) (by decide)) (by decide)) (by decide)) (by decide))
  have U3 : SW.cell? ⟨w.heap.size + 1, 3, none⟩ = some (.string d) := by rw [hSW]; exact (cell_set_off (cell_set_off (cell_set_off (cell_set_off (cell_set_off (cell_set_off (cell_set_same (cell_set_off (cell_set_off (cell_set_off (cell_set_ne (cell_set_ne (cell_set_ne (cell_set_ne (cell_set_ne (cell_set_ne (cell_set_ne (cell_set_ne (cell_set_ne (cell_set_ne u3 (by first | (simp; done) | (simp; omega))) (by first | (simp; done) | (simp; omega))) (by first | (simp; done) | (simp; omega))) (by first | (simp; done) | (simp; omega))) (by first | (simp; done) | (simp; omega))) (by first | (simp; done) | (simp; omega))) (by first | (simp; done) | (simp; omega))) (by first | (simp; done) | (simp; omega))) (by first | (simp; done) | (simp; omega))) (by first | (simp; done) | (simp; omega))) (by decide)) (by decide)) (by decide))) (by decide)) (by decide)) (by decide)) (by decide)) (by decide)) (by decide))
  have U4 : SW.cell? ⟨w.heap.size + 1, 4, none⟩ = some (.int .i64 p) := by rw [hSW]; exact (cell_set_off (cell_set_off (cell_set_off (cell_set_off (cell_set_off (cell_set_same (cell_set_off (cell_set_off (cell_set_off (cell_set_off (cell_set_ne (cell_set_ne (cell_set_ne (cell_set_ne (cell_set_ne (cell_set_ne (cell_set_ne (cell_set_ne (cell_set_ne (cell_set_ne u4 (by first | (simp; done) | (simp; omega))) (by first | (simp; done) | (simp; omega))) (by first | (simp; done) | (simp; omega))) (by first | (simp; done) | (simp; omega))) (by first | (simp; done) | (simp; omega))) (by first | (simp; done) | (simp; omega))) (by first | (simp; done) | (simp; omega))) (by first | (simp; done) | (simp; omega))) (by first | (simp; done) | (simp; omega))) (by first | (simp; done) | (simp; omega))) (by decide)) (by decide)) (by decide)) (by decide))) (by decide)) (by decide)) (by decide)) (by decide)) (by decide))
  have U5 : SW.cell? ⟨w.heap.size + 1, 5, none⟩ = some (.int .i64 q) := by rw [hSW]; exact (cell_set_off (cell_set_off (cell_set_off (cell_set_off (cell_set_same (cell_set_off (cell_set_off (cell_set_off (cell_set_off (cell_set_off (cell_set_ne (cell_set_ne (cell_set_ne (cell_set_ne (cell_set_ne (cell_set_ne (cell_set_ne (cell_set_ne (cell_set_ne (cell_set_ne u5 (by first | (simp; done) | (simp; omega))) (by first | (simp; done) | (simp; omega))) (by first | (simp; done) | (simp; omega))) (by first | (simp; done) | (simp; omega))) (by first | (simp; done) | (simp; omega))) (by first | (simp; done) | (simp; omega))) (by first | (simp; done) | (simp; omega))) (by first | (simp; done) | (simp; omega))) (by first | (simp; done) | (simp; omega))) (by first | (simp; done) | (simp; omega))) (by decide)) (by decide)) (by decide)) (by decide)) (by decide))) (by decide)) (by decide)) (by decide)) (by decide))
  have U6 : SW.cell? ⟨w.heap.size + 1, 6, none⟩ = some (.string e) := by rw [hSW]; exact (cell_set_off (cell_set_off (cell_set_off (cell_set_same (cell_set_off (cell_set_off (cell_set_off (cell_set_off (cell_set_off (cell_set_off (cell_set_ne (cell_set_ne (cell_set_ne (cell_set_ne (cell_set_ne (cell_set_ne (cell_set_ne (cell_set_ne (cell_set_ne (cell_set_ne u6 (by first | (simp; done) | (simp; omega))) (by first | (simp; done) | (simp; omega))) (by first | (simp; done) | (simp; omega))) (by first | (simp; done) | (simp; omega))) (by first | (simp; done) | (simp; omega))) (by first | (simp; done) | (simp; omega))) (by first | (simp; done) | (simp; omega))) (by first | (simp; done) | (simp; omega))) (by first | (simp; done) | (simp; omega))) (by first | (simp; done) | (simp; omega))) (by decide)) (by decide)) (by decide)) (by decide)) (by decide)) (by decide))) (by decide)) (by decide)) (by decide))
  have U7 : SW.cell? ⟨w.heap.size + 1, 7, none⟩ = some (.int .i64 r) := by rw [hSW]; exact (cell_set_off (cell_set_off (cell_set_same (cell_set_off (cell_set_off (cell_set_off (cell_set_off (cell_set_off (cell_set_off (cell_set_off (cell_set_ne (cell_set_ne (cell_set_ne (cell_set_ne (cell_set_ne (cell_set_ne (cell_set_ne (cell_set_ne (cell_set_ne (cell_set_ne u7 (by first | (simp; done) | (simp; omega))) (by first | (simp; done) | (simp; omega))) (by first | (simp; done) | (simp; omega))) (by first | (simp; done) | (simp; omega))) (by first | (simp; done) | (simp; omega))) (by first | (simp; done) | (simp; omega))) (by first | (simp; done) | (simp; omega))) (by first | (simp; done) | (simp; omega))) (by first | (simp; done) | (simp; omega))) (by first | (simp; done) | (simp; omega))) (by decide)) (by decide)) (by decide)) (by decide)) (by decide)) (by decide)) (by decide))) (by decide)) (by decide))
  have U8 : SW.cell? ⟨w.heap.size + 1, 8, none⟩ = some (.int .i64 s) := by rw [hSW]; exact (cell_set_off (cell_set_same (cell_set_off (cell_set_off (cell_set_off (cell_set_off (cell_set_off (cell_set_off (cell_set_off (cell_set_off (cell_set_ne (cell_set_ne (cell_set_ne (cell_set_ne (cell_set_ne (cell_set_ne (cell_set_ne (cell_set_ne (cell_set_ne (cell_set_ne u8 (by first | (simp; done) | (simp; omega))) (by first | (simp; done) | (simp; omega))) (by first | (simp; done) | (simp; omega))) (by first | (simp; done) | (simp; omega))) (by first | (simp; done) | (simp; omega))) (by first | (simp; done) | (simp; omega))) (by first | (simp; done) | (simp; omega))) (by first | (simp; done) | (simp; omega))) (by first | (simp; done) | (simp; omega))) (by first | (simp; done) | (simp; omega))) (by decide)) (by decide)) (by decide)) (by decide)) (by decide)) (by decide)) (by decide)) (by decide))) (by decide))
  have U9 : SW.cell? ⟨w.heap.size + 1, 9, none⟩ = some (.string f) := by rw [hSW]; exact (cell_set_same (cell_set_off (cell_set_off (cell_set_off (cell_set_off (cell_set_off (cell_set_off (cell_set_off (cell_set_off (cell_set_off (cell_set_ne (cell_set_ne (cell_set_ne (cell_set_ne (cell_set_ne (cell_set_ne (cell_set_ne (cell_set_ne (cell_set_ne (cell_set_ne u9 (by first | (simp; done) | (simp; omega))) (by first | (simp; done) | (simp; omega))) (by first | (simp; done) | (simp; omega))) (by first | (simp; done) | (simp; omega))) (by first | (simp; done) | (simp; omega))) (by first | (simp; done) | (simp; omega))) (by first | (simp; done) | (simp; omega))) (by first | (simp; done) | (simp; omega))) (by first | (simp; done) | (simp; omega))) (by first | (simp; done) | (simp; omega))) (by decide)) (by decide)) (by decide)) (by decide)) (by decide)) (by decide)) (by decide)) (by decide)) (by decide)))
  have G0 : SW.cell? ⟨w.heap.size + 1 + 1, 0, none⟩ = some (.int .i64 0) := by rw [hSW]; exact (cell_set_ne (cell_set_ne (cell_set_ne (cell_set_ne (cell_set_ne (cell_set_ne (cell_set_ne (cell_set_ne (cell_set_ne (cell_set_ne (cell_set_ne (cell_set_ne (cell_set_ne (cell_set_ne (cell_set_ne (cell_set_ne (cell_set_ne (cell_set_ne (cell_set_ne (cell_set_ne g0 (by first | (simp; done) | (simp; omega))) (by first | (simp; done) | (simp; omega))) (by first | (simp; done) | (simp; omega))) (by first | (simp; done) | (simp; omega))) (by first | (simp; done) | (simp; omega))) (by first | (simp; done) | (simp; omega))) (by first | (simp; done) | (simp; omega))) (by first | (simp; done) | (simp; omega))) (by first | (simp; done) | (simp; omega))) (by first | (simp; done) | (simp; omega))) (by first | (simp; done) | (simp; omega))) (by first | (simp; done) | (simp; omega))) (by first | (simp; done) | (simp; omega))) (by first | (simp; done) | (simp; omega))) (by first | (simp; done) | (simp; omega))) (by first | (simp; done) | (simp; omega))) (by first | (simp; done) | (simp; omega))) (by first | (simp; done) | (simp; omega))) (by first | (simp; done) | (simp; omega))) (by first | (simp; done) | (simp; omega)))
  have G1 : SW.cell? ⟨w.heap.size + 1 + 1, 1, none⟩ = some (.int .i64 0) := by rw [hSW]; exact (cell_set_ne (cell_set_ne (cell_set_ne (cell_set_ne (cell_set_ne (cell_set_ne (cell_set_ne (cell_set_ne (cell_set_ne (cell_set_ne (cell_set_ne (cell_set_ne (cell_set_ne (cell_set_ne (cell_set_ne (cell_set_ne (cell_set_ne (cell_set_ne (cell_set_ne (cell_set_ne g1 (by first | (simp; done) | (simp; omega))) (by first | (simp; done) | (simp; omega))) (by first | (simp; done) | (simp; omega))) (by first | (simp; done) | (simp; omega))) (by first | (simp; done) | (simp; omega))) (by first | (simp; done) | (simp; omega))) (by first | (simp; done) | (simp; omega))) (by first | (simp; done) | (simp; omega))) (by first | (simp; done) | (simp; omega))) (by first | (simp; done) | (simp; omega))) (by first | (simp; done) | (simp; omega))) (by first | (simp; done) | (simp; omega))) (by first | (simp; done) | (simp; omega))) (by first | (simp; done) | (simp; omega))) (by first | (simp; done) | (simp; omega))) (by first | (simp; done) | (simp; omega))) (by first | (simp; done) | (simp; omega))) (by first | (simp; done) | (simp; omega))) (by first | (simp; done) | (simp; omega))) (by first | (simp; done) | (simp; omega)))
  have G2 : SW.cell? ⟨w.heap.size + 1 + 1, 2, none⟩ = some (.int .i64 0) := by rw [hSW]; exact (cell_set_ne (cell_set_ne (cell_set_ne (cell_set_ne (cell_set_ne (cell_set_ne (cell_set_ne (cell_set_ne (cell_set_ne (cell_set_ne (cell_set_ne (cell_set_ne (cell_set_ne (cell_set_ne (cell_set_ne (cell_set_ne (cell_set_ne (cell_set_ne (cell_set_ne (cell_set_ne g2 (by first | (simp; done) | (simp; omega))) (by first | (simp; done) | (simp; omega))) (by first | (simp; done) | (simp; omega))) (by first | (simp; done) | (simp; omega))) (by first | (simp; done) | (simp; omega))) (by first | (simp; done) | (simp; omega))) (by first | (simp; done) | (simp; omega))) (by first | (simp; done) | (simp; omega))) (by first | (simp; done) | (simp; omega))) (by first | (simp; done) | (simp; omega))) (by first | (simp; done) | (simp; omega))) (by first | (simp; done) | (simp; omega))) (by first | (simp; done) | (simp; omega))) (by first | (simp; done) | (simp; omega))) (by first | (simp; done) | (simp; omega))) (by first | (simp; done) | (simp; omega))) (by first | (simp; done) | (simp; omega))) (by first | (simp; done) | (simp; omega))) (by first | (simp; done) | (simp; omega))) (by first | (simp; done) | (simp; omega)))
  have G3 : SW.cell? ⟨w.heap.size + 1 + 1, 3, none⟩ = some (.string ⟨#[]⟩) := by rw [hSW]; exact (cell_set_ne (cell_set_ne (cell_set_ne (cell_set_ne (cell_set_ne (cell_set_ne (cell_set_ne (cell_set_ne (cell_set_ne (cell_set_ne (cell_set_ne (cell_set_ne (cell_set_ne (cell_set_ne (cell_set_ne (cell_set_ne (cell_set_ne (cell_set_ne (cell_set_ne (cell_set_ne g3 (by first | (simp; done) | (simp; omega))) (by first | (simp; done) | (simp; omega))) (by first | (simp; done) | (simp; omega))) (by first | (simp; done) | (simp; omega))) (by first | (simp; done) | (simp; omega))) (by first | (simp; done) | (simp; omega))) (by first | (simp; done) | (simp; omega))) (by first | (simp; done) | (simp; omega))) (by first | (simp; done) | (simp; omega))) (by first | (simp; done) | (simp; omega))) (by first | (simp; done) | (simp; omega))) (by first | (simp; done) | (simp; omega))) (by first | (simp; done) | (simp; omega))) (by first | (simp; done) | (simp; omega))) (by first | (simp; done) | (simp; omega))) (by first | (simp; done) | (simp; omega))) (by first | (simp; done) | (simp; omega))) (by first | (simp; done) | (simp; omega))) (by first | (simp; done) | (simp; omega))) (by first | (simp; done) | (simp; omega)))
  have G4 : SW.cell? ⟨w.heap.size + 1 + 1, 4, none⟩ = some (.int .i64 0) := by rw [hSW]; exact (cell_set_ne (cell_set_ne (cell_set_ne (cell_set_ne (cell_set_ne (cell_set_ne (cell_set_ne (cell_set_ne (cell_set_ne (cell_set_ne (cell_set_ne (cell_set_ne (cell_set_ne (cell_set_ne (cell_set_ne (cell_set_ne (cell_set_ne (cell_set_ne (cell_set_ne (cell_set_ne g4 (by first | (simp; done) | (simp; omega))) (by first | (simp; done) | (simp; omega))) (by first | (simp; done) | (simp; omega))) (by first | (simp; done) | (simp; omega))) (by first | (simp; done) | (simp; omega))) (by first | (simp; done) | (simp; omega))) (by first | (simp; done) | (simp; omega))) (by first | (simp; done) | (simp; omega))) (by first | (simp; done) | (simp; omega))) (by first | (simp; done) | (simp; omega))) (by first | (simp; done) | (simp; omega))) (by first | (simp; done) | (simp; omega))) (by first | (simp; done) | (simp; omega))) (by first | (simp; done) | (simp; omega))) (by first | (simp; done) | (simp; omega))) (by first | (simp; done) | (simp; omega))) (by first | (simp; done) | (simp; omega))) (by first | (simp; done) | (simp; omega))) (by first | (simp; done) | (simp; omega))) (by first | (simp; done) | (simp; omega)))
  have G5 : SW.cell? ⟨w.heap.size + 1 + 1, 5, none⟩ = some (.int .i64 0) := by rw [hSW]; exact (cell_set_ne (cell_set_ne (cell_set_ne (cell_set_ne (cell_set_ne (cell_set_ne (cell_set_ne (cell_set_ne (cell_set_ne (cell_set_ne (cell_set_ne (cell_set_ne (cell_set_ne (cell_set_ne (cell_set_ne (cell_set_ne (cell_set_ne (cell_set_ne (cell_set_ne (cell_set_ne g5 (by first | (simp; done) | (simp; omega))) (by first | (simp; done) | (simp; omega))) (by first | (simp; done) | (simp; omega))) (by first | (simp; done) | (simp; omega))) (by first | (simp; done) | (simp; omega))) (by first | (simp; done) | (simp; omega))) (by first | (simp; done) | (simp; omega))) (by first | (simp; done) | (simp; omega))) (by first | (simp; done) | (simp; omega))) (by first | (simp; done) | (simp; omega))) (by first | (simp; done) | (simp; omega))) (by first | (simp; done) | (simp; omega))) (by first | (simp; done) | (simp; omega))) (by first | (simp; done) | (simp; omega))) (by first | (simp; done) | (simp; omega))) (by first | (simp; done) | (simp; omega))) (by first | (simp; done) | (simp; omega))) (by first | (simp; done) | (simp; omega))) (by first | (simp; done) | (simp; omega))) (by first | (simp; done) | (simp; omega)))
  have G6 : SW.cell? ⟨w.heap.size + 1 + 1, 6, none⟩ = some (.string ⟨#[]⟩) := by rw [hSW]; exact (cell_set_ne (cell_set_ne (cell_set_ne (cell_set_ne (cell_set_ne (cell_set_ne (cell_set_ne (cell_set_ne (cell_set_ne (cell_set_ne (cell_set_ne (cell_set_ne (cell_set_ne (cell_set_ne (cell_set_ne (cell_set_ne (cell_set_ne (cell_set_ne (cell_set_ne (cell_set_ne g6 (by first | (simp; done) | (simp; omega))) (by first | (simp; done) | (simp; omega))) (by first | (simp; done) | (simp; omega))) (by first | (simp; done) | (simp; omega))) (by first | (simp; done) | (simp; omega))) (by first | (simp; done) | (simp; omega))) (by first | (simp; done) | (simp; omega))) (by first | (simp; done) | (simp; omega))) (by first | (simp; done) | (simp; omega))) (by first | (simp; done) | (simp; omega))) (by first | (simp; done) | (simp; omega))) (by first | (simp; done) | (simp; omega))) (by first | (simp; done) | (simp; omega))) (by first | (simp; done) | (simp; omega))) (by first | (simp; done) | (simp; omega))) (by first | (simp; done) | (simp; omega))) (by first | (simp; done) | (simp; omega))) (by first | (simp; done) | (simp; omega))) (by first | (simp; done) | (simp; omega))) (by first | (simp; done) | (simp; omega)))
  have G7 : SW.cell? ⟨w.heap.size + 1 + 1, 7, none⟩ = some (.int .i64 0) := by rw [hSW]; exact (cell_set_ne (cell_set_ne (cell_set_ne (cell_set_ne (cell_set_ne (cell_set_ne (cell_set_ne (cell_set_ne (cell_set_ne (cell_set_ne (cell_set_ne (cell_set_ne (cell_set_ne (cell_set_ne (cell_set_ne (cell_set_ne (cell_set_ne (cell_set_ne (cell_set_ne (cell_set_ne g7 (by first | (simp; done) | (simp; omega))) (by first | (simp; done) | (simp; omega))) (by first | (simp; done) | (simp; omega))) (by first | (simp; done) | (simp; omega))) (by first | (simp; done) | (simp; omega))) (by first | (simp; done) | (simp; omega))) (by first | (simp; done) | (simp; omega))) (by first | (simp; done) | (simp; omega))) (by first | (simp; done) | (simp; omega))) (by first | (simp; done) | (simp; omega))) (by first | (simp; done) | (simp; omega))) (by first | (simp; done) | (simp; omega))) (by first | (simp; done) | (simp; omega))) (by first | (simp; done) | (simp; omega))) (by first | (simp; done) | (simp; omega))) (by first | (simp; done) | (simp; omega))) (by first | (simp; done) | (simp; omega))) (by first | (simp; done) | (simp; omega))) (by first | (simp; done) | (simp; omega))) (by first | (simp; done) | (simp; omega)))
  have G8 : SW.cell? ⟨w.heap.size + 1 + 1, 8, none⟩ = some (.int .i64 0) := by rw [hSW]; exact (cell_set_ne (cell_set_ne (cell_set_ne (cell_set_ne (cell_set_ne (cell_set_ne (cell_set_ne (cell_set_ne (cell_set_ne (cell_set_ne (cell_set_ne (cell_set_ne (cell_set_ne (cell_set_ne (cell_set_ne (cell_set_ne (cell_set_ne (cell_set_ne (cell_set_ne (cell_set_ne g8 (by first | (simp; done) | (simp; omega))) (by first | (simp; done) | (simp; omega))) (by first | (simp; done) | (simp; omega))) (by first | (simp; done) | (simp; omega))) (by first | (simp; done) | (simp; omega))) (by first | (simp; done) | (simp; omega))) (by first | (simp; done) | (simp; omega))) (by first | (simp; done) | (simp; omega))) (by first | (simp; done) | (simp; omega))) (by first | (simp; done) | (simp; omega))) (by first | (simp; done) | (simp; omega))) (by first | (simp; done) | (simp; omega))) (by first | (simp; done) | (simp; omega))) (by first | (simp; done) | (simp; omega))) (by first | (simp; done) | (simp; omega))) (by first | (simp; done) | (simp; omega))) (by first | (simp; done) | (simp; omega))) (by first | (simp; done) | (simp; omega))) (by first | (simp; done) | (simp; omega))) (by first | (simp; done) | (simp; omega)))
  have G9 : SW.cell? ⟨w.heap.size + 1 + 1, 9, none⟩ = some (.string ⟨#[]⟩) := by rw [hSW]; exact (cell_set_ne (cell_set_ne (cell_set_ne (cell_set_ne (cell_set_ne (cell_set_ne (cell_set_ne (cell_set_ne (cell_set_ne (cell_set_ne (cell_set_ne (cell_set_ne (cell_set_ne (cell_set_ne (cell_set_ne (cell_set_ne (cell_set_ne (cell_set_ne (cell_set_ne (cell_set_ne g9 (by first | (simp; done) | (simp; omega))) (by first | (simp; done) | (simp; omega))) (by first | (simp; done) | (simp; omega))) (by first | (simp; done) | (simp; omega))) (by first | (simp; done) | (simp; omega))) (by first | (simp; done) | (simp; omega))) (by first | (simp; done) | (simp; omega))) (by first | (simp; done) | (simp; omega))) (by first | (simp; done) | (simp; omega))) (by first | (simp; done) | (simp; omega))) (by first | (simp; done) | (simp; omega))) (by first | (simp; done) | (simp; omega))) (by first | (simp; done) | (simp; omega))) (by first | (simp; done) | (simp; omega))) (by first | (simp; done) | (simp; omega))) (by first | (simp; done) | (simp; omega))) (by first | (simp; done) | (simp; omega))) (by first | (simp; done) | (simp; omega))) (by first | (simp; done) | (simp; omega))) (by first | (simp; done) | (simp; omega)))
  have V0 : SW.frozen? ⟨w.heap.size + 1 + 1, 0, none⟩ = false := by rw [hSW]; simp [go_sem, v0]
  have V1 : SW.frozen? ⟨w.heap.size + 1 + 1, 1, none⟩ = false := by rw [hSW]; simp [go_sem, v1]
  have V2 : SW.frozen? ⟨w.heap.size + 1 + 1, 2, none⟩ = false := by rw [hSW]; simp [go_sem, v2]
  have V3 : SW.frozen? ⟨w.heap.size + 1 + 1, 3, none⟩ = false := by rw [hSW]; simp [go_sem, v3]
  have V4 : SW.frozen? ⟨w.heap.size + 1 + 1, 4, none⟩ = false := by rw [hSW]; simp [go_sem, v4]
  have V5 : SW.frozen? ⟨w.heap.size + 1 + 1, 5, none⟩ = false := by rw [hSW]; simp [go_sem, v5]
  have V6 : SW.frozen? ⟨w.heap.size + 1 + 1, 6, none⟩ = false := by rw [hSW]; simp [go_sem, v6]
  have V7 : SW.frozen? ⟨w.heap.size + 1 + 1, 7, none⟩ = false := by rw [hSW]; simp [go_sem, v7]
  have V8 : SW.frozen? ⟨w.heap.size + 1 + 1, 8, none⟩ = false := by rw [hSW]; simp [go_sem, v8]
  have V9 : SW.frozen? ⟨w.heap.size + 1 + 1, 9, none⟩ = false := by rw [hSW]; simp [go_sem, v9]
  have HBS : Below w.heap.size w SW := by rw [hSW]; repeat (first | with_reducible exact HB | refine Below.setCell ?_ (by first | (simp; done) | (simp; omega)) _)
  clear c0 c1 c2 c3 c4 c5 c6 c7 c8 c9 u0 u1 u2 u3 u4 u5 u6 u7 u8 u9 x0 x1 x2 x3 x4 x5 x6 x7 x8 x9 y0 y1 y2 y3 y4 y5 y6 y7 y8 y9 g0 g1 g2 g3 g4 g5 g6 g7 g8 g9 v0 v1 v2 v3 v4 v5 v6 v7 v8 v9 HB hSW
  replace HB := HBS
  clear HBS
  have c0 := C0
  have c1 := C1
  have c2 := C2
  have c3 := C3
  have c4 := C4
  have c5 := C5
  have c6 := C6
  have c7 := C7
  have c8 := C8
  have c9 := C9
  have u0 := U0
  have u1 := U1
  have u2 := U2
  have u3 := U3
  have u4 := U4
  have u5 := U5
  have u6 := U6
  have u7 := U7
  have u8 := U8
  have u9 := U9
  have g0 := G0
  have g1 := G1
  have g2 := G2
  have g3 := G3
  have g4 := G4
  have g5 := G5
  have g6 := G6
  have g7 := G7
  have g8 := G8
  have g9 := G9
  have v0 := V0
  have v1 := V1
  have v2 := V2
  have v3 := V3
  have v4 := V4
  have v5 := V5
  have v6 := V6
  have v7 := V7
  have v8 := V8
  have v9 := V9
  clear C0 C1 C2 C3 C4 C5 C6 C7 C8 C9 U0 U1 U2 U3 U4 U5 U6 U7 U8 U9 G0 G1 G2 G3 G4 G5 G6 G7 G8 G9 V0 V1 V2 V3 V4 V5 V6 V7 V8 V9
  replace HB := HB.drew
  refine wp_region_held_drew (S := (fun w' => (w'.cell? ⟨w.heap.size, 0, none⟩ = some (.int .i64 k2) ∧ w'.cell? ⟨w.heap.size, 1, none⟩ = some (.int .i64 a2) ∧ w'.cell? ⟨w.heap.size, 2, none⟩ = some (.int .i64 b2) ∧ w'.cell? ⟨w.heap.size, 3, none⟩ = some (.string d2) ∧ w'.cell? ⟨w.heap.size, 4, none⟩ = some (.int .i64 p2) ∧ w'.cell? ⟨w.heap.size, 5, none⟩ = some (.int .i64 q2) ∧ w'.cell? ⟨w.heap.size, 6, none⟩ = some (.string e2) ∧ w'.cell? ⟨w.heap.size, 7, none⟩ = some (.int .i64 r2) ∧ w'.cell? ⟨w.heap.size, 8, none⟩ = some (.int .i64 s2) ∧ w'.cell? ⟨w.heap.size, 9, none⟩ = some (.string f2)) ∧ (w'.cell? ⟨w.heap.size + 1, 0, none⟩ = some (.int .i64 k) ∧ w'.cell? ⟨w.heap.size + 1, 1, none⟩ = some (.int .i64 a) ∧ w'.cell? ⟨w.heap.size + 1, 2, none⟩ = some (.int .i64 b) ∧ w'.cell? ⟨w.heap.size + 1, 3, none⟩ = some (.string d) ∧ w'.cell? ⟨w.heap.size + 1, 4, none⟩ = some (.int .i64 p) ∧ w'.cell? ⟨w.heap.size + 1, 5, none⟩ = some (.int .i64 q) ∧ w'.cell? ⟨w.heap.size + 1, 6, none⟩ = some (.string e) ∧ w'.cell? ⟨w.heap.size + 1, 7, none⟩ = some (.int .i64 r) ∧ w'.cell? ⟨w.heap.size + 1, 8, none⟩ = some (.int .i64 s) ∧ w'.cell? ⟨w.heap.size + 1, 9, none⟩ = some (.string f)))) (by kernel_rfl) ?_ (fun hHeld => ?_)
  · exact ⟨⟨c0, c1, c2, c3, c4, c5, c6, c7, c8, c9⟩, ⟨u0, u1, u2, u3, u4, u5, u6, u7, u8, u9⟩⟩
  first | (refine tw (i := 0) (v := ?_) ?_ hHeld ?_; rotate_left; focus (intro w hSw; (try dsimp only at hSw); go_simp; (try with_reducible rfl); done)) | refine tn (i := 0) hHeld ?_
  try simp only [Act.put, List.setIfInBounds_toArray, List.set_cons_zero, List.set_cons_succ]
  first | (refine tw (i := 1) (v := ?_) ?_ hHeld ?_; rotate_left; focus (intro w hSw; (try dsimp only at hSw); go_simp; (try with_reducible rfl); done)) | refine tn (i := 1) hHeld ?_
  try simp only [Act.put, List.setIfInBounds_toArray, List.set_cons_zero, List.set_cons_succ]
  first | (refine tw (i := 2) (v := ?_) ?_ hHeld ?_; rotate_left; focus (intro w hSw; (try dsimp only at hSw); go_simp; (try with_reducible rfl); done)) | refine tn (i := 2) hHeld ?_
  try simp only [Act.put, List.setIfInBounds_toArray, List.set_cons_zero, List.set_cons_succ]
  first | (refine tw (i := 3) (v := ?_) ?_ hHeld ?_; rotate_left; focus (intro w hSw; (try dsimp only at hSw); go_simp; (try with_reducible rfl); done)) | refine tn (i := 3) hHeld ?_
  try simp only [Act.put, List.setIfInBounds_toArray, List.set_cons_zero, List.set_cons_succ]
  first | (refine tw (i := 5) (v := ?_) ?_ hHeld ?_; rotate_left; focus (intro w hSw; (try dsimp only at hSw); go_simp; (try with_reducible rfl); done)) | refine tn (i := 5) hHeld ?_
  try simp only [Act.put, List.setIfInBounds_toArray, List.set_cons_zero, List.set_cons_succ]
  first | (refine tw (i := 7) (v := ?_) ?_ hHeld ?_; rotate_left; focus (intro w hSw; (try dsimp only at hSw); go_simp; (try with_reducible rfl); done)) | refine tn (i := 7) hHeld ?_
  try simp only [Act.put, List.setIfInBounds_toArray, List.set_cons_zero, List.set_cons_succ]
  refine call_next (i := 4) (by kernel_rfl) (by rfl) ?_
  intro o ho K hK
  simp only [List.getElem?_toArray, List.getElem?_cons_succ, List.getElem?_cons_zero, Option.some.injEq] at ho
  subst ho
  first | (fail; refine hK.out _ _ ?_ (fun hHeld => ?_)) | (go_simp; first | (with_reducible refine hK.out _ _ ?_ (fun hHeld => ?_)) | ((first | (go_at_call 27; (with_reducible refine (join_any _ _ _ _ _).mono ?_); rintro e' w5 ⟨rfl, hA⟩; replace c0 := bkeep hA c0; replace c1 := bkeep hA c1; replace c2 := bkeep hA c2; replace c3 := bkeep hA c3; replace c4 := bkeep hA c4; replace c5 := bkeep hA c5; replace c6 := bkeep hA c6; replace c7 := bkeep hA c7; replace c8 := bkeep hA c8; replace c9 := bkeep hA c9; replace u0 := bkeep hA u0; replace u1 := bkeep hA u1; replace u2 := bkeep hA u2; replace u3 := bkeep hA u3; replace u4 := bkeep hA u4; replace u5 := bkeep hA u5; replace u6 := bkeep hA u6; replace u7 := bkeep hA u7; replace u8 := bkeep hA u8; replace u9 := bkeep hA u9; replace v0 := bfree hA g0 v0; replace v1 := bfree hA g1 v1; replace v2 := bfree hA g2 v2; replace v3 := bfree hA g3 v3; replace v4 := bfree hA g4 v4; replace v5 := bfree hA g5 v5; replace v6 := bfree hA g6 v6; replace v7 := bfree hA g7 v7; replace v8 := bfree hA g8 v8; replace v9 := bfree hA g9 v9; replace g0 := bkeep hA g0; replace g1 := bkeep hA g1; replace g2 := bkeep hA g2; replace g3 := bkeep hA g3; replace g4 := bkeep hA g4; replace g5 := bkeep hA g5; replace g6 := bkeep hA g6; replace g7 := bkeep hA g7; replace g8 := bkeep hA g8; replace g9 := bkeep hA g9; replace HB := bt HB hA; clear hA) | (go_at_call 28; (with_reducible refine (S1.out _).mono ?_); rintro e' w5 ⟨rfl, hA⟩; replace c0 := bkeep hA c0; replace c1 := bkeep hA c1; replace c2 := bkeep hA c2; replace c3 := bkeep hA c3; replace c4 := bkeep hA c4; replace c5 := bkeep hA c5; replace c6 := bkeep hA c6; replace c7 := bkeep hA c7; replace c8 := bkeep hA c8; replace c9 := bkeep hA c9; replace u0 := bkeep hA u0; replace u1 := bkeep hA u1; replace u2 := bkeep hA u2; replace u3 := bkeep hA u3; replace u4 := bkeep hA u4; replace u5 := bkeep hA u5; replace u6 := bkeep hA u6; replace u7 := bkeep hA u7; replace u8 := bkeep hA u8; replace u9 := bkeep hA u9; replace v0 := bfree hA g0 v0; replace v1 := bfree hA g1 v1; replace v2 := bfree hA g2 v2; replace v3 := bfree hA g3 v3; replace v4 := bfree hA g4 v4; replace v5 := bfree hA g5 v5; replace v6 := bfree hA g6 v6; replace v7 := bfree hA g7 v7; replace v8 := bfree hA g8 v8; replace v9 := bfree hA g9 v9; replace g0 := bkeep hA g0; replace g1 := bkeep hA g1; replace g2 := bkeep hA g2; replace g3 := bkeep hA g3; replace g4 := bkeep hA g4; replace g5 := bkeep hA g5; replace g6 := bkeep hA g6; replace g7 := bkeep hA g7; replace g8 := bkeep hA g8; replace g9 := bkeep hA g9; replace HB := bt HB hA; clear hA) | (go_at_call 28; (with_reducible refine (S2.out _).mono ?_); rintro e' w5 ⟨rfl, hA⟩; replace c0 := bkeep hA c0; replace c1 := bkeep hA c1; replace c2 := bkeep hA c2; replace c3 := bkeep hA c3; replace c4 := bkeep hA c4; replace c5 := bkeep hA c5; replace c6 := bkeep hA c6; replace c7 := bkeep hA c7; replace c8 := bkeep hA c8; replace c9 := bkeep hA c9; replace u0 := bkeep hA u0; replace u1 := bkeep hA u1; replace u2 := bkeep hA u2; replace u3 := bkeep hA u3; replace u4 := bkeep hA u4; replace u5 := bkeep hA u5; replace u6 := bkeep hA u6; replace u7 := bkeep hA u7; replace u8 := bkeep hA u8; replace u9 := bkeep hA u9; replace v0 := bfree hA g0 v0; replace v1 := bfree hA g1 v1; replace v2 := bfree hA g2 v2; replace v3 := bfree hA g3 v3; replace v4 := bfree hA g4 v4; replace v5 := bfree hA g5 v5; replace v6 := bfree hA g6 v6; replace v7 := bfree hA g7 v7; replace v8 := bfree hA g8 v8; replace v9 := bfree hA g9 v9; replace g0 := bkeep hA g0; replace g1 := bkeep hA g1; replace g2 := bkeep hA g2; replace g3 := bkeep hA g3; replace g4 := bkeep hA g4; replace g5 := bkeep hA g5; replace g6 := bkeep hA g6; replace g7 := bkeep hA g7; replace g8 := bkeep hA g8; replace g9 := bkeep hA g9; replace HB := bt HB hA; clear hA)); refine hK.out _ _ ?_ (fun hHeld => ?_)))
  · exact ⟨⟨c0, c1, c2, c3, c4, c5, c6, c7, c8, c9⟩, ⟨u0, u1, u2, u3, u4, u5, u6, u7, u8, u9⟩⟩
  clear hK K
  try simp only [Act.put, List.setIfInBounds_toArray, List.set_cons_zero, List.set_cons_succ]
  refine call_next (i := 6) (by kernel_rfl) (by rfl) ?_
  intro o ho K hK
  simp only [List.getElem?_toArray, List.getElem?_cons_succ, List.getElem?_cons_zero, Option.some.injEq] at ho
  subst ho
  first | (fail; refine hK.out _ _ ?_ (fun hHeld => ?_)) | (go_simp; first | (with_reducible refine hK.out _ _ ?_ (fun hHeld => ?_)) | ((first | (go_at_call 27; (with_reducible refine (join_any _ _ _ _ _).mono ?_); rintro e' w5 ⟨rfl, hA⟩; replace c0 := bkeep hA c0; replace c1 := bkeep hA c1; replace c2 := bkeep hA c2; replace c3 := bkeep hA c3; replace c4 := bkeep hA c4; replace c5 := bkeep hA c5; replace c6 := bkeep hA c6; replace c7 := bkeep hA c7; replace c8 := bkeep hA c8; replace c9 := bkeep hA c9; replace u0 := bkeep hA u0; replace u1 := bkeep hA u1; replace u2 := bkeep hA u2; replace u3 := bkeep hA u3; replace u4 := bkeep hA u4; replace u5 := bkeep hA u5; replace u6 := bkeep hA u6; replace u7 := bkeep hA u7; replace u8 := bkeep hA u8; replace u9 := bkeep hA u9; replace v0 := bfree hA g0 v0; replace v1 := bfree hA g1 v1; replace v2 := bfree hA g2 v2; replace v3 := bfree hA g3 v3; replace v4 := bfree hA g4 v4; replace v5 := bfree hA g5 v5; replace v6 := bfree hA g6 v6; replace v7 := bfree hA g7 v7; replace v8 := bfree hA g8 v8; replace v9 := bfree hA g9 v9; replace g0 := bkeep hA g0; replace g1 := bkeep hA g1; replace g2 := bkeep hA g2; replace g3 := bkeep hA g3; replace g4 := bkeep hA g4; replace g5 := bkeep hA g5; replace g6 := bkeep hA g6; replace g7 := bkeep hA g7; replace g8 := bkeep hA g8; replace g9 := bkeep hA g9; replace HB := bt HB hA; clear hA) | (go_at_call 28; (with_reducible refine (S1.out _).mono ?_); rintro e' w5 ⟨rfl, hA⟩; replace c0 := bkeep hA c0; replace c1 := bkeep hA c1; replace c2 := bkeep hA c2; replace c3 := bkeep hA c3; replace c4 := bkeep hA c4; replace c5 := bkeep hA c5; replace c6 := bkeep hA c6; replace c7 := bkeep hA c7; replace c8 := bkeep hA c8; replace c9 := bkeep hA c9; replace u0 := bkeep hA u0; replace u1 := bkeep hA u1; replace u2 := bkeep hA u2; replace u3 := bkeep hA u3; replace u4 := bkeep hA u4; replace u5 := bkeep hA u5; replace u6 := bkeep hA u6; replace u7 := bkeep hA u7; replace u8 := bkeep hA u8; replace u9 := bkeep hA u9; replace v0 := bfree hA g0 v0; replace v1 := bfree hA g1 v1; replace v2 := bfree hA g2 v2; replace v3 := bfree hA g3 v3; replace v4 := bfree hA g4 v4; replace v5 := bfree hA g5 v5; replace v6 := bfree hA g6 v6; replace v7 := bfree hA g7 v7; replace v8 := bfree hA g8 v8; replace v9 := bfree hA g9 v9; replace g0 := bkeep hA g0; replace g1 := bkeep hA g1; replace g2 := bkeep hA g2; replace g3 := bkeep hA g3; replace g4 := bkeep hA g4; replace g5 := bkeep hA g5; replace g6 := bkeep hA g6; replace g7 := bkeep hA g7; replace g8 := bkeep hA g8; replace g9 := bkeep hA g9; replace HB := bt HB hA; clear hA) | (go_at_call 28; (with_reducible refine (S2.out _).mono ?_); rintro e' w5 ⟨rfl, hA⟩; replace c0 := bkeep hA c0; replace c1 := bkeep hA c1; replace c2 := bkeep hA c2; replace c3 := bkeep hA c3; replace c4 := bkeep hA c4; replace c5 := bkeep hA c5; replace c6 := bkeep hA c6; replace c7 := bkeep hA c7; replace c8 := bkeep hA c8; replace c9 := bkeep hA c9; replace u0 := bkeep hA u0; replace u1 := bkeep hA u1; replace u2 := bkeep hA u2; replace u3 := bkeep hA u3; replace u4 := bkeep hA u4; replace u5 := bkeep hA u5; replace u6 := bkeep hA u6; replace u7 := bkeep hA u7; replace u8 := bkeep hA u8; replace u9 := bkeep hA u9; replace v0 := bfree hA g0 v0; replace v1 := bfree hA g1 v1; replace v2 := bfree hA g2 v2; replace v3 := bfree hA g3 v3; replace v4 := bfree hA g4 v4; replace v5 := bfree hA g5 v5; replace v6 := bfree hA g6 v6; replace v7 := bfree hA g7 v7; replace v8 := bfree hA g8 v8; replace v9 := bfree hA g9 v9; replace g0 := bkeep hA g0; replace g1 := bkeep hA g1; replace g2 := bkeep hA g2; replace g3 := bkeep hA g3; replace g4 := bkeep hA g4; replace g5 := bkeep hA g5; replace g6 := bkeep hA g6; replace g7 := bkeep hA g7; replace g8 := bkeep hA g8; replace g9 := bkeep hA g9; replace HB := bt HB hA; clear hA)); refine hK.out _ _ ?_ (fun hHeld => ?_)))
  · exact ⟨⟨c0, c1, c2, c3, c4, c5, c6, c7, c8, c9⟩, ⟨u0, u1, u2, u3, u4, u5, u6, u7, u8, u9⟩⟩
  clear hK K
  try simp only [Act.put, List.setIfInBounds_toArray, List.set_cons_zero, List.set_cons_succ]
  refine call_next (i := 8) (by kernel_rfl) (by rfl) ?_
  intro o ho K hK
  simp only [List.getElem?_toArray, List.getElem?_cons_succ, List.getElem?_cons_zero, Option.some.injEq] at ho
  subst ho
  first | (fail; refine hK.out _ _ ?_ (fun hHeld => ?_)) | (go_simp; first | (with_reducible refine hK.out _ _ ?_ (fun hHeld => ?_)) | ((first | (go_at_call 27; (with_reducible refine (join_any _ _ _ _ _).mono ?_); rintro e' w5 ⟨rfl, hA⟩; replace c0 := bkeep hA c0; replace c1 := bkeep hA c1; replace c2 := bkeep hA c2; replace c3 := bkeep hA c3; replace c4 := bkeep hA c4; replace c5 := bkeep hA c5; replace c6 := bkeep hA c6; replace c7 := bkeep hA c7; replace c8 := bkeep hA c8; replace c9 := bkeep hA c9; replace u0 := bkeep hA u0; replace u1 := bkeep hA u1; replace u2 := bkeep hA u2; replace u3 := bkeep hA u3; replace u4 := bkeep hA u4; replace u5 := bkeep hA u5; replace u6 := bkeep hA u6; replace u7 := bkeep hA u7; replace u8 := bkeep hA u8; replace u9 := bkeep hA u9; replace v0 := bfree hA g0 v0; replace v1 := bfree hA g1 v1; replace v2 := bfree hA g2 v2; replace v3 := bfree hA g3 v3; replace v4 := bfree hA g4 v4; replace v5 := bfree hA g5 v5; replace v6 := bfree hA g6 v6; replace v7 := bfree hA g7 v7; replace v8 := bfree hA g8 v8; replace v9 := bfree hA g9 v9; replace g0 := bkeep hA g0; replace g1 := bkeep hA g1; replace g2 := bkeep hA g2; replace g3 := bkeep hA g3; replace g4 := bkeep hA g4; replace g5 := bkeep hA g5; replace g6 := bkeep hA g6; replace g7 := bkeep hA g7; replace g8 := bkeep hA g8; replace g9 := bkeep hA g9; replace HB := bt HB hA; clear hA) | (go_at_call 28; (with_reducible refine (S1.out _).mono ?_); rintro e' w5 ⟨rfl, hA⟩; replace c0 := bkeep hA c0; replace c1 := bkeep hA c1; replace c2 := bkeep hA c2; replace c3 := bkeep hA c3; replace c4 := bkeep hA c4; replace c5 := bkeep hA c5; replace c6 := bkeep hA c6; replace c7 := bkeep hA c7; replace c8 := bkeep hA c8; replace c9 := bkeep hA c9; replace u0 := bkeep hA u0; replace u1 := bkeep hA u1; replace u2 := bkeep hA u2; replace u3 := bkeep hA u3; replace u4 := bkeep hA u4; replace u5 := bkeep hA u5; replace u6 := bkeep hA u6; replace u7 := bkeep hA u7; replace u8 := bkeep hA u8; replace u9 := bkeep hA u9; replace v0 := bfree hA g0 v0; replace v1 := bfree hA g1 v1; replace v2 := bfree hA g2 v2; replace v3 := bfree hA g3 v3; replace v4 := bfree hA g4 v4; replace v5 := bfree hA g5 v5; replace v6 := bfree hA g6 v6; replace v7 := bfree hA g7 v7; replace v8 := bfree hA g8 v8; replace v9 := bfree hA g9 v9; replace g0 := bkeep hA g0; replace g1 := bkeep hA g1; replace g2 := bkeep hA g2; replace g3 := bkeep hA g3; replace g4 := bkeep hA g4; replace g5 := bkeep hA g5; replace g6 := bkeep hA g6; replace g7 := bkeep hA g7; replace g8 := bkeep hA g8; replace g9 := bkeep hA g9; replace HB := bt HB hA; clear hA) | (go_at_call 28; (with_reducible refine (S2.out _).mono ?_); rintro e' w5 ⟨rfl, hA⟩; replace c0 := bkeep hA c0; replace c1 := bkeep hA c1; replace c2 := bkeep hA c2; replace c3 := bkeep hA c3; replace c4 := bkeep hA c4; replace c5 := bkeep hA c5; replace c6 := bkeep hA c6; replace c7 := bkeep hA c7; replace c8 := bkeep hA c8; replace c9 := bkeep hA c9; replace u0 := bkeep hA u0; replace u1 := bkeep hA u1; replace u2 := bkeep hA u2; replace u3 := bkeep hA u3; replace u4 := bkeep hA u4; replace u5 := bkeep hA u5; replace u6 := bkeep hA u6; replace u7 := bkeep hA u7; replace u8 := bkeep hA u8; replace u9 := bkeep hA u9; replace v0 := bfree hA g0 v0; replace v1 := bfree hA g1 v1; replace v2 := bfree hA g2 v2; replace v3 := bfree hA g3 v3; replace v4 := bfree hA g4 v4; replace v5 := bfree hA g5 v5; replace v6 := bfree hA g6 v6; replace v7 := bfree hA g7 v7; replace v8 := bfree hA g8 v8; replace v9 := bfree hA g9 v9; replace g0 := bkeep hA g0; replace g1 := bkeep hA g1; replace g2 := bkeep hA g2; replace g3 := bkeep hA g3; replace g4 := bkeep hA g4; replace g5 := bkeep hA g5; replace g6 := bkeep hA g6; replace g7 := bkeep hA g7; replace g8 := bkeep hA g8; replace g9 := bkeep hA g9; replace HB := bt HB hA; clear hA)); refine hK.out _ _ ?_ (fun hHeld => ?_)))
  · exact ⟨⟨c0, c1, c2, c3, c4, c5, c6, c7, c8, c9⟩, ⟨u0, u1, u2, u3, u4, u5, u6, u7, u8, u9⟩⟩
  clear hK K
  try simp only [Act.put, List.setIfInBounds_toArray, List.set_cons_zero, List.set_cons_succ]
  first | (refine tw (i := 9) (v := ?_) ?_ hHeld ?_; rotate_left; focus (intro w hSw; (try dsimp only at hSw); go_simp; (try with_reducible rfl); done)) | refine tn (i := 9) hHeld ?_
  try simp only [Act.put, List.setIfInBounds_toArray, List.set_cons_zero, List.set_cons_succ]
  refine call_next (i := 10) (by kernel_rfl) (by rfl) ?_
  intro o ho K hK
  simp only [List.getElem?_toArray, List.getElem?_cons_succ, List.getElem?_cons_zero, Option.some.injEq] at ho
  subst ho
  first | (fail; refine hK.out _ _ ?_ (fun hHeld => ?_)) | (go_simp; first | (with_reducible refine hK.out _ _ ?_ (fun hHeld => ?_)) | ((first | (go_at_call 27; (with_reducible refine (join_any _ _ _ _ _).mono ?_); rintro e' w5 ⟨rfl, hA⟩; replace c0 := bkeep hA c0; replace c1 := bkeep hA c1; replace c2 := bkeep hA c2; replace c3 := bkeep hA c3; replace c4 := bkeep hA c4; replace c5 := bkeep hA c5; replace c6 := bkeep hA c6; replace c7 := bkeep hA c7; replace c8 := bkeep hA c8; replace c9 := bkeep hA c9; replace u0 := bkeep hA u0; replace u1 := bkeep hA u1; replace u2 := bkeep hA u2; replace u3 := bkeep hA u3; replace u4 := bkeep hA u4; replace u5 := bkeep hA u5; replace u6 := bkeep hA u6; replace u7 := bkeep hA u7; replace u8 := bkeep hA u8; replace u9 := bkeep hA u9; replace v0 := bfree hA g0 v0; replace v1 := bfree hA g1 v1; replace v2 := bfree hA g2 v2; replace v3 := bfree hA g3 v3; replace v4 := bfree hA g4 v4; replace v5 := bfree hA g5 v5; replace v6 := bfree hA g6 v6; replace v7 := bfree hA g7 v7; replace v8 := bfree hA g8 v8; replace v9 := bfree hA g9 v9; replace g0 := bkeep hA g0; replace g1 := bkeep hA g1; replace g2 := bkeep hA g2; replace g3 := bkeep hA g3; replace g4 := bkeep hA g4; replace g5 := bkeep hA g5; replace g6 := bkeep hA g6; replace g7 := bkeep hA g7; replace g8 := bkeep hA g8; replace g9 := bkeep hA g9; replace HB := bt HB hA; clear hA) | (go_at_call 28; (with_reducible refine (S1.out _).mono ?_); rintro e' w5 ⟨rfl, hA⟩; replace c0 := bkeep hA c0; replace c1 := bkeep hA c1; replace c2 := bkeep hA c2; replace c3 := bkeep hA c3; replace c4 := bkeep hA c4; replace c5 := bkeep hA c5; replace c6 := bkeep hA c6; replace c7 := bkeep hA c7; replace c8 := bkeep hA c8; replace c9 := bkeep hA c9; replace u0 := bkeep hA u0; replace u1 := bkeep hA u1; replace u2 := bkeep hA u2; replace u3 := bkeep hA u3; replace u4 := bkeep hA u4; replace u5 := bkeep hA u5; replace u6 := bkeep hA u6; replace u7 := bkeep hA u7; replace u8 := bkeep hA u8; replace u9 := bkeep hA u9; replace v0 := bfree hA g0 v0; replace v1 := bfree hA g1 v1; replace v2 := bfree hA g2 v2; replace v3 := bfree hA g3 v3; replace v4 := bfree hA g4 v4; replace v5 := bfree hA g5 v5; replace v6 := bfree hA g6 v6; replace v7 := bfree hA g7 v7; replace v8 := bfree hA g8 v8; replace v9 := bfree hA g9 v9; replace g0 := bkeep hA g0; replace g1 := bkeep hA g1; replace g2 := bkeep hA g2; replace g3 := bkeep hA g3; replace g4 := bkeep hA g4; replace g5 := bkeep hA g5; replace g6 := bkeep hA g6; replace g7 := bkeep hA g7; replace g8 := bkeep hA g8; replace g9 := bkeep hA g9; replace HB := bt HB hA; clear hA) | (go_at_call 28; (with_reducible refine (S2.out _).mono ?_); rintro e' w5 ⟨rfl, hA⟩; replace c0 := bkeep hA c0; replace c1 := bkeep hA c1; replace c2 := bkeep hA c2; replace c3 := bkeep hA c3; replace c4 := bkeep hA c4; replace c5 := bkeep hA c5; replace c6 := bkeep hA c6; replace c7 := bkeep hA c7; replace c8 := bkeep hA c8; replace c9 := bkeep hA c9; replace u0 := bkeep hA u0; replace u1 := bkeep hA u1; replace u2 := bkeep hA u2; replace u3 := bkeep hA u3; replace u4 := bkeep hA u4; replace u5 := bkeep hA u5; replace u6 := bkeep hA u6; replace u7 := bkeep hA u7; replace u8 := bkeep hA u8; replace u9 := bkeep hA u9; replace v0 := bfree hA g0 v0; replace v1 := bfree hA g1 v1; replace v2 := bfree hA g2 v2; replace v3 := bfree hA g3 v3; replace v4 := bfree hA g4 v4; replace v5 := bfree hA g5 v5; replace v6 := bfree hA g6 v6; replace v7 := bfree hA g7 v7; replace v8 := bfree hA g8 v8; replace v9 := bfree hA g9 v9; replace g0 := bkeep hA g0; replace g1 := bkeep hA g1; replace g2 := bkeep hA g2; replace g3 := bkeep hA g3; replace g4 := bkeep hA g4; replace g5 := bkeep hA g5; replace g6 := bkeep hA g6; replace g7 := bkeep hA g7; replace g8 := bkeep hA g8; replace g9 := bkeep hA g9; replace HB := bt HB hA; clear hA)); refine hK.out _ _ ?_ (fun hHeld => ?_)))
  · first | (with_reducible exact True.intro) | ((try simp only [World.cell?_drew] at *); repeat' (first | (with_reducible assumption) | (with_reducible refine And.intro ?_ ?_) | (refine cell_set_ne ?_ (by first | (simp; done) | (simp; omega))) | (refine bkeep (bdraws0 _ _) ?_; with_reducible assumption)))
  clear hK K
  try simp only [Act.put, List.setIfInBounds_toArray, List.set_cons_zero, List.set_cons_succ]
  refine wpAnyH_done (by kernel_rfl) ?_ _
  go_wp2
  exact bodyPost_ret (v := SS 1 (mx a2 a) (mx b2 b) ⟨#[]⟩ t0 t1 t2 t3 t4 t5) (by simp [results, Try.results10, go_sem, g0, g1, g2, g3, g4, g5, g6, g7, g8, g9]) rfl ⟨rfl, by repeat (first | with_reducible exact HB | refine Below.setCell ?_ (by first | (simp; done) | (simp; omega)) _ | refine Below.alloc ?_ (by first | (simp; done) | (simp; omega)) _)⟩
theorem cmp_range (p q r s : Int) : cmpZ p q r s = 0 ∨ cmpZ p q r s = 1 ∨ cmpZ p q r s = 2 ∨ cmpZ p q r s = 3 := by
  unfold cmpZ; split <;> split <;> simp
theorem join_st (x y : St) (w : World) : Calls Try.prog 10 #[x.v, y.v] w fun e' w' => e' = .returned (joinS x y).v ∧ Below w.heap.size w w' := by
  obtain ⟨k, a, b, d, ⟨p, q, e⟩, ⟨r, s, f⟩⟩ := x
  obtain ⟨k2, a2, b2, d2, ⟨p2, q2, e2⟩, ⟨r2, s2, f2⟩⟩ := y
  unfold joinS
  rcases cmp_range a b a2 b2 with h | h | h | h
  · rw [if_neg (by simp only [h]; decide), if_neg (by simp only [h]; decide)]
    exact join_same _ _ _ _ _ _ _ _ _ _ _ _ _ _ _ _ _ _ _ _ w 0 h (.inl rfl)
  · rw [if_neg (by simp only [h]; decide), if_neg (by simp only [h]; decide)]
    exact join_same _ _ _ _ _ _ _ _ _ _ _ _ _ _ _ _ _ _ _ _ w 1 h (.inr rfl)
  · rw [if_neg (by simp only [h]; decide), if_pos (by simp only [h])]
    exact join_behind _ _ _ _ _ _ _ _ _ _ _ _ _ _ _ _ _ _ _ _ w h
  · rw [if_pos (by simp only [h])]
    by_cases hl : a < a2
    · rw [if_pos hl]
      exact join_swap _ _ _ _ _ _ _ _ _ _ _ _ _ _ _ _ _ _ _ _ w h hl _ _ _ _ _ _ rfl rfl
    · rw [if_neg hl]
      exact join_meet _ _ _ _ _ _ _ _ _ _ _ _ _ _ _ _ _ _ _ _ w h hl _ _ _ _ _ _ rfl rfl
end Go.Proofs.Ytingeahkndingaa
