/-
  Package state (chapter 23): writes and choices.
-/
import Derived.Test.YtingeahkndingaaState4
namespace Go.Proofs.Ytingeahkndingaa
open Go.RowKit
set_option linter.unusedVariables false
set_option linter.unusedSimpArgs false
def st0 : St := ⟨0, 0, 0, ⟨#[]⟩, ⟨0, 0, ⟨#[]⟩⟩, ⟨0, 0, ⟨#[]⟩⟩⟩
def onS (a b : Int) (d : ByteArray) : St := ⟨0, a, b, d, ⟨0, 0, ⟨#[]⟩⟩, ⟨0, 0, ⟨#[]⟩⟩⟩
def plnS (a b node boot : Int) (d : ByteArray) : St := if bumpE a b node boot = 0 then onS (bumpA a b node boot) (bumpB a b node boot) d else st0
theorem bump_at {a b node boot x y e0 : Int} (hx : bumpA a b node boot = x) (hy : bumpB a b node boot = y) (he : bumpE a b node boot = e0) (w : World) : Calls Try.prog 47 #[VV a b, .int .i64 node, .int .i64 boot] w fun e w' => e = .returned (.tuple #[VV x y, .int .i64 e0]) ∧ Below w.heap.size w w' := hx ▸ hy ▸ he ▸ bump_any a b node boot w
theorem rbump_at {a b node boot x y e0 : Int} (hx : bumpA a b node boot = x) (hy : bumpB a b node boot = y) (he : bumpE a b node boot = e0) (w : World) (ha : a ≤ 9223372036854775807) (hb : b ≤ 9223372036854775807) (ht : boot ≤ 9223372036854775807) : Calls Try.prog 32 #[VV a b, .int .i64 node, .int .i64 boot] w fun e w' => e = .returned (.tuple #[VV x y, .int .i64 e0]) ∧ Below w.heap.size w w' := hx ▸ hy ▸ he ▸ rbump_any a b node boot w ha hb ht
theorem held2' {w : World} {a b : Int} (T : TypeId) : let W := w.alloc (.cells #[.int .i64 a, .int .i64 b] T)
    W.cell? ⟨w.heap.size, 0, none⟩ = some (.int .i64 a) ∧ W.cell? ⟨w.heap.size, 1, none⟩ = some (.int .i64 b) ∧ W.frozen? ⟨w.heap.size, 0, none⟩ = false ∧ W.frozen? ⟨w.heap.size, 1, none⟩ = false := by
  intro W
  refine ⟨?_, ?_, ?_, ?_⟩ <;> simp [W, go_sem]
set_option maxHeartbeats 6400000 in
theorem plain_any (a b node boot : Int) (d : ByteArray) (w : World) : Calls Try.prog 31 #[VV a b, .int .i64 node, .int .i64 boot, .string d] w fun e' w' => e' = .returned (.tuple #[(plnS a b node boot d).v, .int .i64 (bumpE a b node boot)]) ∧ Below w.heap.size w w' := by
  have HP : plnS a b node boot d = if bumpE a b node boot = 0 then onS (bumpA a b node boot) (bumpB a b node boot) d else st0 := rfl
  obtain ⟨x, hx⟩ : ∃ x, bumpA a b node boot = x := ⟨_, rfl⟩
  obtain ⟨y, hy⟩ : ∃ x, bumpB a b node boot = x := ⟨_, rfl⟩
  obtain ⟨E, hE⟩ : ∃ x, bumpE a b node boot = x := ⟨_, rfl⟩
  have C := Lib.hid (fun w => bump_at hx hy hE w)
  rw [hx, hy, hE] at HP
  rw [hE]
  clear hx hy hE
  by_cases h0 : E = 0
  · rw [if_pos h0] at HP
    rw [HP]
    subst h0
    clear HP
    obtain ⟨c0, c1, x0, x1⟩ := held2' (w := w) (a := a) (b := b) 23
    have HB : Below w.heap.size w (w.alloc (.cells #[.int .i64 a, .int .i64 b] 23)) := (Below.refl _ _).alloc (Nat.le_refl _) _
    have hz1 : (w.alloc (.cells #[.int .i64 a, .int .i64 b] 23)).heap.size = w.heap.size + 1 := by simp
    go_enter Try.func31, Try.ntmps31
    go_wp2_with fail
    generalize w.alloc (.cells #[.int .i64 a, .int .i64 b] 23) = W1 at *
    obtain ⟨g0, g1, g2, g3, g4, g5, g6, g7, g8, g9⟩ := held10 (w := W1) (k := 0) (a := 0) (b := 0) (d := ⟨#[]⟩) (p := 0) (q := 0) (e := ⟨#[]⟩) (r := 0) (s := 0) (f := ⟨#[]⟩) 27
    obtain ⟨v0, v1, v2, v3, v4, v5, v6, v7, v8, v9⟩ := free10 (w := W1) (k := 0) (a := 0) (b := 0) (d := ⟨#[]⟩) (p := 0) (q := 0) (e := ⟨#[]⟩) (r := 0) (s := 0) (f := ⟨#[]⟩) 27
    have hA : Below W1.heap.size W1 (W1.alloc (.cells #[.int .i64 0, .int .i64 0, .int .i64 0, .string ⟨#[]⟩, .int .i64 0, .int .i64 0, .string ⟨#[]⟩, .int .i64 0, .int .i64 0, .string ⟨#[]⟩] 27)) := (Below.refl _ _).alloc (Nat.le_refl _) _
    rw [hz1] at g0 g1 g2 g3 g4 g5 g6 g7 g8 g9 v0 v1 v2 v3 v4 v5 v6 v7 v8 v9
    replace x0 := bfree hA c0 x0
    replace x1 := bfree hA c1 x1
    replace c0 := bkeep hA c0
    replace c1 := bkeep hA c1
    replace HB := bt HB hA
    clear hA hz1
    generalize W1.alloc (.cells #[.int .i64 0, .int .i64 0, .int .i64 0, .string ⟨#[]⟩, .int .i64 0, .int .i64 0, .string ⟨#[]⟩, .int .i64 0, .int .i64 0, .string ⟨#[]⟩] 27) = W2 at *
    refine (C.out _).mono ?_
    rintro e' W3 ⟨rfl, hA⟩
    replace x0 := bfree hA c0 x0
    replace x1 := bfree hA c1 x1
    replace c0 := bkeep hA c0
    replace c1 := bkeep hA c1
    replace v0 := bfree hA g0 v0
    replace v1 := bfree hA g1 v1
    replace v2 := bfree hA g2 v2
    replace v3 := bfree hA g3 v3
    replace v4 := bfree hA g4 v4
    replace v5 := bfree hA g5 v5
    replace v6 := bfree hA g6 v6
    replace v7 := bfree hA g7 v7
    replace v8 := bfree hA g8 v8
    replace v9 := bfree hA g9 v9
    replace g0 := bkeep hA g0
    replace g1 := bkeep hA g1
    replace g2 := bkeep hA g2
    replace g3 := bkeep hA g3
    replace g4 := bkeep hA g4
    replace g5 := bkeep hA g5
    replace g6 := bkeep hA g6
    replace g7 := bkeep hA g7
    replace g8 := bkeep hA g8
    replace g9 := bkeep hA g9
    replace HB := bt HB hA
    clear hA
    go_wp2
    exact bodyPost_ret (v := .tuple #[(onS x y d).v, .int .i64 0]) (by simp [results, Try.results31, go_sem, g0, g1, g2, g3, g4, g5, g6, g7, g8, g9, onS]) rfl ⟨rfl, by repeat (first | with_reducible exact HB | with_reducible refine Below.drew ?_ | with_reducible refine Below.setCell ?_ (by first | (simp; done) | (simp; omega)) _ | with_reducible refine Below.alloc ?_ (by first | (simp; done) | (simp; omega)) _)⟩
  · rw [if_neg h0] at HP
    rw [HP]
    have hne : (E != 0) = true := bne_iff_ne.2 h0
    clear HP h0
    obtain ⟨c0, c1, x0, x1⟩ := held2' (w := w) (a := a) (b := b) 23
    have HB : Below w.heap.size w (w.alloc (.cells #[.int .i64 a, .int .i64 b] 23)) := (Below.refl _ _).alloc (Nat.le_refl _) _
    have hz1 : (w.alloc (.cells #[.int .i64 a, .int .i64 b] 23)).heap.size = w.heap.size + 1 := by simp
    go_enter Try.func31, Try.ntmps31
    go_wp2_with fail
    generalize w.alloc (.cells #[.int .i64 a, .int .i64 b] 23) = W1 at *
    obtain ⟨g0, g1, g2, g3, g4, g5, g6, g7, g8, g9⟩ := held10 (w := W1) (k := 0) (a := 0) (b := 0) (d := ⟨#[]⟩) (p := 0) (q := 0) (e := ⟨#[]⟩) (r := 0) (s := 0) (f := ⟨#[]⟩) 27
    obtain ⟨v0, v1, v2, v3, v4, v5, v6, v7, v8, v9⟩ := free10 (w := W1) (k := 0) (a := 0) (b := 0) (d := ⟨#[]⟩) (p := 0) (q := 0) (e := ⟨#[]⟩) (r := 0) (s := 0) (f := ⟨#[]⟩) 27
    have hA : Below W1.heap.size W1 (W1.alloc (.cells #[.int .i64 0, .int .i64 0, .int .i64 0, .string ⟨#[]⟩, .int .i64 0, .int .i64 0, .string ⟨#[]⟩, .int .i64 0, .int .i64 0, .string ⟨#[]⟩] 27)) := (Below.refl _ _).alloc (Nat.le_refl _) _
    rw [hz1] at g0 g1 g2 g3 g4 g5 g6 g7 g8 g9 v0 v1 v2 v3 v4 v5 v6 v7 v8 v9
    replace x0 := bfree hA c0 x0
    replace x1 := bfree hA c1 x1
    replace c0 := bkeep hA c0
    replace c1 := bkeep hA c1
    replace HB := bt HB hA
    clear hA hz1
    generalize W1.alloc (.cells #[.int .i64 0, .int .i64 0, .int .i64 0, .string ⟨#[]⟩, .int .i64 0, .int .i64 0, .string ⟨#[]⟩, .int .i64 0, .int .i64 0, .string ⟨#[]⟩] 27) = W2 at *
    refine (C.out _).mono ?_
    rintro e' W3 ⟨rfl, hA⟩
    replace x0 := bfree hA c0 x0
    replace x1 := bfree hA c1 x1
    replace c0 := bkeep hA c0
    replace c1 := bkeep hA c1
    replace v0 := bfree hA g0 v0
    replace v1 := bfree hA g1 v1
    replace v2 := bfree hA g2 v2
    replace v3 := bfree hA g3 v3
    replace v4 := bfree hA g4 v4
    replace v5 := bfree hA g5 v5
    replace v6 := bfree hA g6 v6
    replace v7 := bfree hA g7 v7
    replace v8 := bfree hA g8 v8
    replace v9 := bfree hA g9 v9
    replace g0 := bkeep hA g0
    replace g1 := bkeep hA g1
    replace g2 := bkeep hA g2
    replace g3 := bkeep hA g3
    replace g4 := bkeep hA g4
    replace g5 := bkeep hA g5
    replace g6 := bkeep hA g6
    replace g7 := bkeep hA g7
    replace g8 := bkeep hA g8
    replace g9 := bkeep hA g9
    replace HB := bt HB hA
    clear hA
    go_wp2
    exact bodyPost_ret (v := .tuple #[st0.v, .int .i64 E]) (by simp [results, Try.results31, go_sem, g0, g1, g2, g3, g4, g5, g6, g7, g8, g9, st0]) rfl ⟨rfl, by repeat (first | with_reducible exact HB | with_reducible refine Below.drew ?_ | with_reducible refine Below.setCell ?_ (by first | (simp; done) | (simp; omega)) _ | with_reducible refine Below.alloc ?_ (by first | (simp; done) | (simp; omega)) _)⟩
theorem lt_ne {W : World} {g o : Nat} {v : Value} (h : W.cell? ⟨g, o, none⟩ = some v) : ¬ (W.heap.size = g) := by
  have := World.block_lt_of_cell? W _ h
  intro e; simp at this; omega
def wrE (x : St) (node boot : Int) (t : ByteArray) : Int := if chkE x = 0 then (if x.k = 1 then 14 else if t.size ≠ 128 then 12 else bumpE x.a x.b node boot) else chkE x
def wrS (x : St) (node boot : Int) (t : ByteArray) : St := if wrE x node boot t = 0 then onS (bumpA x.a x.b node boot) (bumpB x.a x.b node boot) t else st0
def resD (x : St) (choice : Int) (t : ByteArray) : ByteArray := if choice = 0 then x.x.d else if choice = 1 then x.y.d else t
def resE (x : St) (node boot choice : Int) (t : ByteArray) : Int := if chkE x = 0 then (if x.k = 1 then (if choice < 0 ∨ 2 < choice then 3 else if choice = 2 ∧ t.size ≠ 128 then 12 else bumpE x.a x.b node boot) else 10) else chkE x
def resS (x : St) (node boot choice : Int) (t : ByteArray) : St := if resE x node boot choice t = 0 then onS (bumpA x.a x.b node boot) (bumpB x.a x.b node boot) (resD x choice t) else st0
theorem chk_at {k a b : Int} {d : ByteArray} {p q : Int} {e : ByteArray} {r s : Int} {f : ByteArray} {E : Int} (h : chkE ⟨k, a, b, d, ⟨p, q, e⟩, ⟨r, s, f⟩⟩ = E) (w : World) : Calls Try.prog 11 #[SS k a b d p q e r s f] w fun e' w' => e' = .returned (.int .i64 E) ∧ Below w.heap.size w w' := h ▸ check_any k a b d p q e r s f w
theorem rchk_at {k a b : Int} {d : ByteArray} {p q : Int} {e : ByteArray} {r s : Int} {f : ByteArray} {E : Int} (h : chkE ⟨k, a, b, d, ⟨p, q, e⟩, ⟨r, s, f⟩⟩ = E) (w : World) : Calls Try.prog 9 #[SS k a b d p q e r s f] w fun e' w' => e' = .returned (.int .i64 E) ∧ Below w.heap.size w w' := h ▸ rcheck_any k a b d p q e r s f w
theorem plain_ok {a b node boot x y : Int} {t : ByteArray} (hx : bumpA a b node boot = x) (hy : bumpB a b node boot = y) (he : bumpE a b node boot = 0) (w : World) : Calls Try.prog 31 #[VV a b, .int .i64 node, .int .i64 boot, .string t] w fun e w' => e = .returned (.tuple #[SS 0 x y t 0 0 ⟨#[]⟩ 0 0 ⟨#[]⟩, .int .i64 0]) ∧ Below w.heap.size w w' := by
  have h := plain_any a b node boot t w
  unfold plnS at h
  rw [if_pos he, hx, hy, he] at h
  exact h
theorem plain_bad {a b node boot E : Int} {t : ByteArray} (he : bumpE a b node boot = E) (h0 : E ≠ 0) (w : World) : Calls Try.prog 31 #[VV a b, .int .i64 node, .int .i64 boot, .string t] w fun e w' => e = .returned (.tuple #[SS 0 0 0 ⟨#[]⟩ 0 0 ⟨#[]⟩ 0 0 ⟨#[]⟩, .int .i64 E]) ∧ Below w.heap.size w w' := by
  have h := plain_any a b node boot t w
  unfold plnS at h
  rw [he, if_neg h0] at h
  exact h
set_option maxHeartbeats 6400000 in
theorem write_any (k a b : Int) (d : ByteArray) (p q : Int) (e : ByteArray) (r s : Int) (f : ByteArray) (node boot : Int) (t : ByteArray) (w : World) : Calls Try.prog 15 #[SS k a b d p q e r s f, .int .i64 node, .int .i64 boot, .string t] w fun e' w' => e' = .returned (.tuple #[(wrS ⟨k, a, b, d, ⟨p, q, e⟩, ⟨r, s, f⟩⟩ node boot t).v, .int .i64 (wrE ⟨k, a, b, d, ⟨p, q, e⟩, ⟨r, s, f⟩⟩ node boot t)]) ∧ Below w.heap.size w w' := by
  have HE : wrE ⟨k, a, b, d, ⟨p, q, e⟩, ⟨r, s, f⟩⟩ node boot t = if chkE ⟨k, a, b, d, ⟨p, q, e⟩, ⟨r, s, f⟩⟩ = 0 then (if k = 1 then 14 else if t.size ≠ 128 then 12 else bumpE a b node boot) else chkE ⟨k, a, b, d, ⟨p, q, e⟩, ⟨r, s, f⟩⟩ := rfl
  have HS : wrS ⟨k, a, b, d, ⟨p, q, e⟩, ⟨r, s, f⟩⟩ node boot t = if wrE ⟨k, a, b, d, ⟨p, q, e⟩, ⟨r, s, f⟩⟩ node boot t = 0 then onS (bumpA a b node boot) (bumpB a b node boot) t else st0 := rfl
  have HBP : plnS a b node boot t = if bumpE a b node boot = 0 then onS (bumpA a b node boot) (bumpB a b node boot) t else st0 := rfl
  obtain ⟨E, hE⟩ : ∃ x, chkE ⟨k, a, b, d, ⟨p, q, e⟩, ⟨r, s, f⟩⟩ = x := ⟨_, rfl⟩
  have K := Lib.hid (fun w => chk_at hE w)
  rw [hE] at HE
  clear hE
  by_cases h0 : E = 0
  case neg =>
    rw [if_neg h0] at HE
    rw [HE, if_neg h0] at HS
    have HF := Lib.hid (And.intro HS HE)
    have hne : (E != 0) = true := bne_iff_ne.2 h0
    clear HE HS HBP h0
    obtain ⟨c0, c1, c2, c3, c4, c5, c6, c7, c8, c9⟩ := held10 (w := w) (k := k) (a := a) (b := b) (d := d) (p := p) (q := q) (e := e) (r := r) (s := s) (f := f) 27
    have HB : Below w.heap.size w (w.alloc (.cells #[.int .i64 k, .int .i64 a, .int .i64 b, .string d, .int .i64 p, .int .i64 q, .string e, .int .i64 r, .int .i64 s, .string f] 27)) := (Below.refl _ _).alloc (Nat.le_refl _) _
    have hz1 : (w.alloc (.cells #[.int .i64 k, .int .i64 a, .int .i64 b, .string d, .int .i64 p, .int .i64 q, .string e, .int .i64 r, .int .i64 s, .string f] 27)).heap.size = w.heap.size + 1 := by simp
    go_enter Try.func15, Try.ntmps15
    go_wp2_with fail
    generalize w.alloc (.cells #[.int .i64 k, .int .i64 a, .int .i64 b, .string d, .int .i64 p, .int .i64 q, .string e, .int .i64 r, .int .i64 s, .string f] 27) = W1 at *
    obtain ⟨g0, g1, g2, g3, g4, g5, g6, g7, g8, g9⟩ := held10 (w := W1) (k := 0) (a := 0) (b := 0) (d := ⟨#[]⟩) (p := 0) (q := 0) (e := ⟨#[]⟩) (r := 0) (s := 0) (f := ⟨#[]⟩) 27
    obtain ⟨v0, v1, v2, v3, v4, v5, v6, v7, v8, v9⟩ := free10 (w := W1) (k := 0) (a := 0) (b := 0) (d := ⟨#[]⟩) (p := 0) (q := 0) (e := ⟨#[]⟩) (r := 0) (s := 0) (f := ⟨#[]⟩) 27
    have hA : Below W1.heap.size W1 (W1.alloc (.cells #[.int .i64 0, .int .i64 0, .int .i64 0, .string ⟨#[]⟩, .int .i64 0, .int .i64 0, .string ⟨#[]⟩, .int .i64 0, .int .i64 0, .string ⟨#[]⟩] 27)) := (Below.refl _ _).alloc (Nat.le_refl _) _
    rw [hz1] at g0 g1 g2 g3 g4 g5 g6 g7 g8 g9 v0 v1 v2 v3 v4 v5 v6 v7 v8 v9
    replace c0 := bkeep hA c0
    replace c1 := bkeep hA c1
    replace c2 := bkeep hA c2
    replace c3 := bkeep hA c3
    replace c4 := bkeep hA c4
    replace c5 := bkeep hA c5
    replace c6 := bkeep hA c6
    replace c7 := bkeep hA c7
    replace c8 := bkeep hA c8
    replace c9 := bkeep hA c9
    replace HB := bt HB hA
    clear hA hz1
    generalize W1.alloc (.cells #[.int .i64 0, .int .i64 0, .int .i64 0, .string ⟨#[]⟩, .int .i64 0, .int .i64 0, .string ⟨#[]⟩, .int .i64 0, .int .i64 0, .string ⟨#[]⟩] 27) = W2 at *
    refine (K.out _).mono ?_
    rintro e' W5 ⟨rfl, hA⟩
    replace c0 := bkeep hA c0
    replace c1 := bkeep hA c1
    replace c2 := bkeep hA c2
    replace c3 := bkeep hA c3
    replace c4 := bkeep hA c4
    replace c5 := bkeep hA c5
    replace c6 := bkeep hA c6
    replace c7 := bkeep hA c7
    replace c8 := bkeep hA c8
    replace c9 := bkeep hA c9
    replace v0 := bfree hA g0 v0
    replace v1 := bfree hA g1 v1
    replace v2 := bfree hA g2 v2
    replace v3 := bfree hA g3 v3
    replace v4 := bfree hA g4 v4
    replace v5 := bfree hA g5 v5
    replace v6 := bfree hA g6 v6
    replace v7 := bfree hA g7 v7
    replace v8 := bfree hA g8 v8
    replace v9 := bfree hA g9 v9
    replace g0 := bkeep hA g0
    replace g1 := bkeep hA g1
    replace g2 := bkeep hA g2
    replace g3 := bkeep hA g3
    replace g4 := bkeep hA g4
    replace g5 := bkeep hA g5
    replace g6 := bkeep hA g6
    replace g7 := bkeep hA g7
    replace g8 := bkeep hA g8
    replace g9 := bkeep hA g9
    replace HB := bt HB hA
    clear hA
    have hn2 := lt_ne g0
    have hn3 := fun h => hn2 (Eq.symm h)
    go_wp2
    exact bodyPost_ret (v := .tuple #[(st0).v, .int .i64 (E)]) (by simp [results, Try.results15, go_sem, g0, g1, g2, g3, g4, g5, g6, g7, g8, g9, onS, st0, hn2, hn3]) rfl ⟨by rw [HF.out.1, HF.out.2], by repeat (first | with_reducible exact HB | with_reducible refine Below.drew ?_ | with_reducible refine Below.setCell ?_ (by first | (simp; done) | (simp; omega)) _ | with_reducible refine Below.alloc ?_ (by first | (simp; done) | (simp; omega)) _)⟩
  subst h0
  rw [if_pos rfl] at HE
  by_cases h1 : k = 1
  · rw [if_pos h1] at HE
    rw [HE, if_neg (by decide)] at HS
    have HF := Lib.hid (And.intro HS HE)
    have hk1 : (k == 1) = true := beq_iff_eq.2 h1
    clear HE HS HBP h1
    obtain ⟨c0, c1, c2, c3, c4, c5, c6, c7, c8, c9⟩ := held10 (w := w) (k := k) (a := a) (b := b) (d := d) (p := p) (q := q) (e := e) (r := r) (s := s) (f := f) 27
    have HB : Below w.heap.size w (w.alloc (.cells #[.int .i64 k, .int .i64 a, .int .i64 b, .string d, .int .i64 p, .int .i64 q, .string e, .int .i64 r, .int .i64 s, .string f] 27)) := (Below.refl _ _).alloc (Nat.le_refl _) _
    have hz1 : (w.alloc (.cells #[.int .i64 k, .int .i64 a, .int .i64 b, .string d, .int .i64 p, .int .i64 q, .string e, .int .i64 r, .int .i64 s, .string f] 27)).heap.size = w.heap.size + 1 := by simp
    go_enter Try.func15, Try.ntmps15
    go_wp2_with fail
    generalize w.alloc (.cells #[.int .i64 k, .int .i64 a, .int .i64 b, .string d, .int .i64 p, .int .i64 q, .string e, .int .i64 r, .int .i64 s, .string f] 27) = W1 at *
    obtain ⟨g0, g1, g2, g3, g4, g5, g6, g7, g8, g9⟩ := held10 (w := W1) (k := 0) (a := 0) (b := 0) (d := ⟨#[]⟩) (p := 0) (q := 0) (e := ⟨#[]⟩) (r := 0) (s := 0) (f := ⟨#[]⟩) 27
    obtain ⟨v0, v1, v2, v3, v4, v5, v6, v7, v8, v9⟩ := free10 (w := W1) (k := 0) (a := 0) (b := 0) (d := ⟨#[]⟩) (p := 0) (q := 0) (e := ⟨#[]⟩) (r := 0) (s := 0) (f := ⟨#[]⟩) 27
    have hA : Below W1.heap.size W1 (W1.alloc (.cells #[.int .i64 0, .int .i64 0, .int .i64 0, .string ⟨#[]⟩, .int .i64 0, .int .i64 0, .string ⟨#[]⟩, .int .i64 0, .int .i64 0, .string ⟨#[]⟩] 27)) := (Below.refl _ _).alloc (Nat.le_refl _) _
    rw [hz1] at g0 g1 g2 g3 g4 g5 g6 g7 g8 g9 v0 v1 v2 v3 v4 v5 v6 v7 v8 v9
    replace c0 := bkeep hA c0
    replace c1 := bkeep hA c1
    replace c2 := bkeep hA c2
    replace c3 := bkeep hA c3
    replace c4 := bkeep hA c4
    replace c5 := bkeep hA c5
    replace c6 := bkeep hA c6
    replace c7 := bkeep hA c7
    replace c8 := bkeep hA c8
    replace c9 := bkeep hA c9
    replace HB := bt HB hA
    clear hA hz1
    generalize W1.alloc (.cells #[.int .i64 0, .int .i64 0, .int .i64 0, .string ⟨#[]⟩, .int .i64 0, .int .i64 0, .string ⟨#[]⟩, .int .i64 0, .int .i64 0, .string ⟨#[]⟩] 27) = W2 at *
    refine (K.out _).mono ?_
    rintro e' W5 ⟨rfl, hA⟩
    replace c0 := bkeep hA c0
    replace c1 := bkeep hA c1
    replace c2 := bkeep hA c2
    replace c3 := bkeep hA c3
    replace c4 := bkeep hA c4
    replace c5 := bkeep hA c5
    replace c6 := bkeep hA c6
    replace c7 := bkeep hA c7
    replace c8 := bkeep hA c8
    replace c9 := bkeep hA c9
    replace v0 := bfree hA g0 v0
    replace v1 := bfree hA g1 v1
    replace v2 := bfree hA g2 v2
    replace v3 := bfree hA g3 v3
    replace v4 := bfree hA g4 v4
    replace v5 := bfree hA g5 v5
    replace v6 := bfree hA g6 v6
    replace v7 := bfree hA g7 v7
    replace v8 := bfree hA g8 v8
    replace v9 := bfree hA g9 v9
    replace g0 := bkeep hA g0
    replace g1 := bkeep hA g1
    replace g2 := bkeep hA g2
    replace g3 := bkeep hA g3
    replace g4 := bkeep hA g4
    replace g5 := bkeep hA g5
    replace g6 := bkeep hA g6
    replace g7 := bkeep hA g7
    replace g8 := bkeep hA g8
    replace g9 := bkeep hA g9
    replace HB := bt HB hA
    clear hA
    have hn2 := lt_ne g0
    have hn3 := fun h => hn2 (Eq.symm h)
    go_wp2
    exact bodyPost_ret (v := .tuple #[(st0).v, .int .i64 (14)]) (by simp [results, Try.results15, go_sem, g0, g1, g2, g3, g4, g5, g6, g7, g8, g9, onS, st0, hn2, hn3]) rfl ⟨by rw [HF.out.1, HF.out.2], by repeat (first | with_reducible exact HB | with_reducible refine Below.drew ?_ | with_reducible refine Below.setCell ?_ (by first | (simp; done) | (simp; omega)) _ | with_reducible refine Below.alloc ?_ (by first | (simp; done) | (simp; omega)) _)⟩
  have hk1 : (k == 1) = false := beq_eq_false_iff_ne.2 h1
  rw [if_neg h1] at HE
  clear h1
  by_cases hd : t.size = 128
  case neg =>
    rw [if_pos hd] at HE
    rw [HE, if_neg (by decide)] at HS
    have HF := Lib.hid (And.intro HS HE)
    have hdz := size_ne hd
    clear HE HS HBP hd
    obtain ⟨c0, c1, c2, c3, c4, c5, c6, c7, c8, c9⟩ := held10 (w := w) (k := k) (a := a) (b := b) (d := d) (p := p) (q := q) (e := e) (r := r) (s := s) (f := f) 27
    have HB : Below w.heap.size w (w.alloc (.cells #[.int .i64 k, .int .i64 a, .int .i64 b, .string d, .int .i64 p, .int .i64 q, .string e, .int .i64 r, .int .i64 s, .string f] 27)) := (Below.refl _ _).alloc (Nat.le_refl _) _
    have hz1 : (w.alloc (.cells #[.int .i64 k, .int .i64 a, .int .i64 b, .string d, .int .i64 p, .int .i64 q, .string e, .int .i64 r, .int .i64 s, .string f] 27)).heap.size = w.heap.size + 1 := by simp
    go_enter Try.func15, Try.ntmps15
    go_wp2_with fail
    generalize w.alloc (.cells #[.int .i64 k, .int .i64 a, .int .i64 b, .string d, .int .i64 p, .int .i64 q, .string e, .int .i64 r, .int .i64 s, .string f] 27) = W1 at *
    obtain ⟨g0, g1, g2, g3, g4, g5, g6, g7, g8, g9⟩ := held10 (w := W1) (k := 0) (a := 0) (b := 0) (d := ⟨#[]⟩) (p := 0) (q := 0) (e := ⟨#[]⟩) (r := 0) (s := 0) (f := ⟨#[]⟩) 27
    obtain ⟨v0, v1, v2, v3, v4, v5, v6, v7, v8, v9⟩ := free10 (w := W1) (k := 0) (a := 0) (b := 0) (d := ⟨#[]⟩) (p := 0) (q := 0) (e := ⟨#[]⟩) (r := 0) (s := 0) (f := ⟨#[]⟩) 27
    have hA : Below W1.heap.size W1 (W1.alloc (.cells #[.int .i64 0, .int .i64 0, .int .i64 0, .string ⟨#[]⟩, .int .i64 0, .int .i64 0, .string ⟨#[]⟩, .int .i64 0, .int .i64 0, .string ⟨#[]⟩] 27)) := (Below.refl _ _).alloc (Nat.le_refl _) _
    rw [hz1] at g0 g1 g2 g3 g4 g5 g6 g7 g8 g9 v0 v1 v2 v3 v4 v5 v6 v7 v8 v9
    replace c0 := bkeep hA c0
    replace c1 := bkeep hA c1
    replace c2 := bkeep hA c2
    replace c3 := bkeep hA c3
    replace c4 := bkeep hA c4
    replace c5 := bkeep hA c5
    replace c6 := bkeep hA c6
    replace c7 := bkeep hA c7
    replace c8 := bkeep hA c8
    replace c9 := bkeep hA c9
    replace HB := bt HB hA
    clear hA hz1
    generalize W1.alloc (.cells #[.int .i64 0, .int .i64 0, .int .i64 0, .string ⟨#[]⟩, .int .i64 0, .int .i64 0, .string ⟨#[]⟩, .int .i64 0, .int .i64 0, .string ⟨#[]⟩] 27) = W2 at *
    refine (K.out _).mono ?_
    rintro e' W5 ⟨rfl, hA⟩
    replace c0 := bkeep hA c0
    replace c1 := bkeep hA c1
    replace c2 := bkeep hA c2
    replace c3 := bkeep hA c3
    replace c4 := bkeep hA c4
    replace c5 := bkeep hA c5
    replace c6 := bkeep hA c6
    replace c7 := bkeep hA c7
    replace c8 := bkeep hA c8
    replace c9 := bkeep hA c9
    replace v0 := bfree hA g0 v0
    replace v1 := bfree hA g1 v1
    replace v2 := bfree hA g2 v2
    replace v3 := bfree hA g3 v3
    replace v4 := bfree hA g4 v4
    replace v5 := bfree hA g5 v5
    replace v6 := bfree hA g6 v6
    replace v7 := bfree hA g7 v7
    replace v8 := bfree hA g8 v8
    replace v9 := bfree hA g9 v9
    replace g0 := bkeep hA g0
    replace g1 := bkeep hA g1
    replace g2 := bkeep hA g2
    replace g3 := bkeep hA g3
    replace g4 := bkeep hA g4
    replace g5 := bkeep hA g5
    replace g6 := bkeep hA g6
    replace g7 := bkeep hA g7
    replace g8 := bkeep hA g8
    replace g9 := bkeep hA g9
    replace HB := bt HB hA
    clear hA
    have hn2 := lt_ne g0
    have hn3 := fun h => hn2 (Eq.symm h)
    go_wp2
    exact bodyPost_ret (v := .tuple #[(st0).v, .int .i64 (12)]) (by simp [results, Try.results15, go_sem, g0, g1, g2, g3, g4, g5, g6, g7, g8, g9, onS, st0, hn2, hn3]) rfl ⟨by rw [HF.out.1, HF.out.2], by repeat (first | with_reducible exact HB | with_reducible refine Below.drew ?_ | with_reducible refine Below.setCell ?_ (by first | (simp; done) | (simp; omega)) _ | with_reducible refine Below.alloc ?_ (by first | (simp; done) | (simp; omega)) _)⟩
  have hdz := size_eq hd
  rw [if_neg (fun h => h hd)] at HE
  clear hd
  obtain ⟨x, hx⟩ : ∃ x, bumpA a b node boot = x := ⟨_, rfl⟩
  obtain ⟨y, hy⟩ : ∃ x, bumpB a b node boot = x := ⟨_, rfl⟩
  obtain ⟨E2, hE2⟩ : ∃ x, bumpE a b node boot = x := ⟨_, rfl⟩
  rw [hx, hy] at HS HBP
  rw [hE2] at HE HBP
  by_cases h0 : E2 = 0
  · subst h0
    rw [if_pos rfl] at HBP
    rw [HE, if_pos rfl] at HS
    have HF := Lib.hid (And.intro HS HE)
    have C := Lib.hid (fun w => plain_ok (t := t) hx hy hE2 w)
    clear HE HS HBP hx hy hE2
    obtain ⟨c0, c1, c2, c3, c4, c5, c6, c7, c8, c9⟩ := held10 (w := w) (k := k) (a := a) (b := b) (d := d) (p := p) (q := q) (e := e) (r := r) (s := s) (f := f) 27
    have HB : Below w.heap.size w (w.alloc (.cells #[.int .i64 k, .int .i64 a, .int .i64 b, .string d, .int .i64 p, .int .i64 q, .string e, .int .i64 r, .int .i64 s, .string f] 27)) := (Below.refl _ _).alloc (Nat.le_refl _) _
    have hz1 : (w.alloc (.cells #[.int .i64 k, .int .i64 a, .int .i64 b, .string d, .int .i64 p, .int .i64 q, .string e, .int .i64 r, .int .i64 s, .string f] 27)).heap.size = w.heap.size + 1 := by simp
    go_enter Try.func15, Try.ntmps15
    go_wp2_with fail
    generalize w.alloc (.cells #[.int .i64 k, .int .i64 a, .int .i64 b, .string d, .int .i64 p, .int .i64 q, .string e, .int .i64 r, .int .i64 s, .string f] 27) = W1 at *
    obtain ⟨g0, g1, g2, g3, g4, g5, g6, g7, g8, g9⟩ := held10 (w := W1) (k := 0) (a := 0) (b := 0) (d := ⟨#[]⟩) (p := 0) (q := 0) (e := ⟨#[]⟩) (r := 0) (s := 0) (f := ⟨#[]⟩) 27
    obtain ⟨v0, v1, v2, v3, v4, v5, v6, v7, v8, v9⟩ := free10 (w := W1) (k := 0) (a := 0) (b := 0) (d := ⟨#[]⟩) (p := 0) (q := 0) (e := ⟨#[]⟩) (r := 0) (s := 0) (f := ⟨#[]⟩) 27
    have hA : Below W1.heap.size W1 (W1.alloc (.cells #[.int .i64 0, .int .i64 0, .int .i64 0, .string ⟨#[]⟩, .int .i64 0, .int .i64 0, .string ⟨#[]⟩, .int .i64 0, .int .i64 0, .string ⟨#[]⟩] 27)) := (Below.refl _ _).alloc (Nat.le_refl _) _
    rw [hz1] at g0 g1 g2 g3 g4 g5 g6 g7 g8 g9 v0 v1 v2 v3 v4 v5 v6 v7 v8 v9
    replace c0 := bkeep hA c0
    replace c1 := bkeep hA c1
    replace c2 := bkeep hA c2
    replace c3 := bkeep hA c3
    replace c4 := bkeep hA c4
    replace c5 := bkeep hA c5
    replace c6 := bkeep hA c6
    replace c7 := bkeep hA c7
    replace c8 := bkeep hA c8
    replace c9 := bkeep hA c9
    replace HB := bt HB hA
    clear hA hz1
    generalize W1.alloc (.cells #[.int .i64 0, .int .i64 0, .int .i64 0, .string ⟨#[]⟩, .int .i64 0, .int .i64 0, .string ⟨#[]⟩, .int .i64 0, .int .i64 0, .string ⟨#[]⟩] 27) = W2 at *
    refine (K.out _).mono ?_
    rintro e' W5 ⟨rfl, hA⟩
    replace c0 := bkeep hA c0
    replace c1 := bkeep hA c1
    replace c2 := bkeep hA c2
    replace c3 := bkeep hA c3
    replace c4 := bkeep hA c4
    replace c5 := bkeep hA c5
    replace c6 := bkeep hA c6
    replace c7 := bkeep hA c7
    replace c8 := bkeep hA c8
    replace c9 := bkeep hA c9
    replace v0 := bfree hA g0 v0
    replace v1 := bfree hA g1 v1
    replace v2 := bfree hA g2 v2
    replace v3 := bfree hA g3 v3
    replace v4 := bfree hA g4 v4
    replace v5 := bfree hA g5 v5
    replace v6 := bfree hA g6 v6
    replace v7 := bfree hA g7 v7
    replace v8 := bfree hA g8 v8
    replace v9 := bfree hA g9 v9
    replace g0 := bkeep hA g0
    replace g1 := bkeep hA g1
    replace g2 := bkeep hA g2
    replace g3 := bkeep hA g3
    replace g4 := bkeep hA g4
    replace g5 := bkeep hA g5
    replace g6 := bkeep hA g6
    replace g7 := bkeep hA g7
    replace g8 := bkeep hA g8
    replace g9 := bkeep hA g9
    replace HB := bt HB hA
    clear hA
    have hn2 := lt_ne g0
    have hn3 := fun h => hn2 (Eq.symm h)
    go_wp2_with (first | (go_at_call 31; (with_reducible refine (C.out _).mono ?_); rintro e' W6 ⟨rfl, hA⟩; replace c0 := bkeep hA c0; replace c1 := bkeep hA c1; replace c2 := bkeep hA c2; replace c3 := bkeep hA c3; replace c4 := bkeep hA c4; replace c5 := bkeep hA c5; replace c6 := bkeep hA c6; replace c7 := bkeep hA c7; replace c8 := bkeep hA c8; replace c9 := bkeep hA c9; replace v0 := bfree hA g0 v0; replace v1 := bfree hA g1 v1; replace v2 := bfree hA g2 v2; replace v3 := bfree hA g3 v3; replace v4 := bfree hA g4 v4; replace v5 := bfree hA g5 v5; replace v6 := bfree hA g6 v6; replace v7 := bfree hA g7 v7; replace v8 := bfree hA g8 v8; replace v9 := bfree hA g9 v9; replace g0 := bkeep hA g0; replace g1 := bkeep hA g1; replace g2 := bkeep hA g2; replace g3 := bkeep hA g3; replace g4 := bkeep hA g4; replace g5 := bkeep hA g5; replace g6 := bkeep hA g6; replace g7 := bkeep hA g7; replace g8 := bkeep hA g8; replace g9 := bkeep hA g9; replace HB := bt HB hA; clear hA hn2 hn3; have hn2 := lt_ne g0; have hn3 := fun h => hn2 (Eq.symm h)) | (go_at_call 32; (with_reducible refine (C.out _).mono ?_); rintro e' W6 ⟨rfl, hA⟩; replace c0 := bkeep hA c0; replace c1 := bkeep hA c1; replace c2 := bkeep hA c2; replace c3 := bkeep hA c3; replace c4 := bkeep hA c4; replace c5 := bkeep hA c5; replace c6 := bkeep hA c6; replace c7 := bkeep hA c7; replace c8 := bkeep hA c8; replace c9 := bkeep hA c9; replace v0 := bfree hA g0 v0; replace v1 := bfree hA g1 v1; replace v2 := bfree hA g2 v2; replace v3 := bfree hA g3 v3; replace v4 := bfree hA g4 v4; replace v5 := bfree hA g5 v5; replace v6 := bfree hA g6 v6; replace v7 := bfree hA g7 v7; replace v8 := bfree hA g8 v8; replace v9 := bfree hA g9 v9; replace g0 := bkeep hA g0; replace g1 := bkeep hA g1; replace g2 := bkeep hA g2; replace g3 := bkeep hA g3; replace g4 := bkeep hA g4; replace g5 := bkeep hA g5; replace g6 := bkeep hA g6; replace g7 := bkeep hA g7; replace g8 := bkeep hA g8; replace g9 := bkeep hA g9; replace HB := bt HB hA; clear hA hn2 hn3; have hA := (Below.refl W6.heap.size W6).alloc (Nat.le_refl _) (Obj.cells #[.int .i64 x, .int .i64 y] 23); replace c0 := bkeep hA c0; replace c1 := bkeep hA c1; replace c2 := bkeep hA c2; replace c3 := bkeep hA c3; replace c4 := bkeep hA c4; replace c5 := bkeep hA c5; replace c6 := bkeep hA c6; replace c7 := bkeep hA c7; replace c8 := bkeep hA c8; replace c9 := bkeep hA c9; replace v0 := bfree hA g0 v0; replace v1 := bfree hA g1 v1; replace v2 := bfree hA g2 v2; replace v3 := bfree hA g3 v3; replace v4 := bfree hA g4 v4; replace v5 := bfree hA g5 v5; replace v6 := bfree hA g6 v6; replace v7 := bfree hA g7 v7; replace v8 := bfree hA g8 v8; replace v9 := bfree hA g9 v9; replace g0 := bkeep hA g0; replace g1 := bkeep hA g1; replace g2 := bkeep hA g2; replace g3 := bkeep hA g3; replace g4 := bkeep hA g4; replace g5 := bkeep hA g5; replace g6 := bkeep hA g6; replace g7 := bkeep hA g7; replace g8 := bkeep hA g8; replace g9 := bkeep hA g9; replace HB := bt HB hA; clear hA; have hn2 := lt_ne g0; have hn3 := fun h => hn2 (Eq.symm h)))
    exact bodyPost_ret (v := .tuple #[(onS x y t).v, .int .i64 (0)]) (by simp [results, Try.results15, go_sem, g0, g1, g2, g3, g4, g5, g6, g7, g8, g9, onS, st0, hn2, hn3]) rfl ⟨by rw [HF.out.1, HF.out.2], by repeat (first | with_reducible exact HB | with_reducible refine Below.drew ?_ | with_reducible refine Below.setCell ?_ (by first | (simp; done) | (simp; omega)) _ | with_reducible refine Below.alloc ?_ (by first | (simp; done) | (simp; omega)) _)⟩
  · rw [if_neg h0] at HBP
    rw [HE, if_neg h0] at HS
    have HF := Lib.hid (And.intro HS HE)
    have hne : (E2 != 0) = true := bne_iff_ne.2 h0
    have C := Lib.hid (fun w => plain_bad (t := t) hE2 h0 w)
    clear HE HS HBP hx hy hE2 h0
    obtain ⟨c0, c1, c2, c3, c4, c5, c6, c7, c8, c9⟩ := held10 (w := w) (k := k) (a := a) (b := b) (d := d) (p := p) (q := q) (e := e) (r := r) (s := s) (f := f) 27
    have HB : Below w.heap.size w (w.alloc (.cells #[.int .i64 k, .int .i64 a, .int .i64 b, .string d, .int .i64 p, .int .i64 q, .string e, .int .i64 r, .int .i64 s, .string f] 27)) := (Below.refl _ _).alloc (Nat.le_refl _) _
    have hz1 : (w.alloc (.cells #[.int .i64 k, .int .i64 a, .int .i64 b, .string d, .int .i64 p, .int .i64 q, .string e, .int .i64 r, .int .i64 s, .string f] 27)).heap.size = w.heap.size + 1 := by simp
    go_enter Try.func15, Try.ntmps15
    go_wp2_with fail
    generalize w.alloc (.cells #[.int .i64 k, .int .i64 a, .int .i64 b, .string d, .int .i64 p, .int .i64 q, .string e, .int .i64 r, .int .i64 s, .string f] 27) = W1 at *
    obtain ⟨g0, g1, g2, g3, g4, g5, g6, g7, g8, g9⟩ := held10 (w := W1) (k := 0) (a := 0) (b := 0) (d := ⟨#[]⟩) (p := 0) (q := 0) (e := ⟨#[]⟩) (r := 0) (s := 0) (f := ⟨#[]⟩) 27
    obtain ⟨v0, v1, v2, v3, v4, v5, v6, v7, v8, v9⟩ := free10 (w := W1) (k := 0) (a := 0) (b := 0) (d := ⟨#[]⟩) (p := 0) (q := 0) (e := ⟨#[]⟩) (r := 0) (s := 0) (f := ⟨#[]⟩) 27
    have hA : Below W1.heap.size W1 (W1.alloc (.cells #[.int .i64 0, .int .i64 0, .int .i64 0, .string ⟨#[]⟩, .int .i64 0, .int .i64 0, .string ⟨#[]⟩, .int .i64 0, .int .i64 0, .string ⟨#[]⟩] 27)) := (Below.refl _ _).alloc (Nat.le_refl _) _
    rw [hz1] at g0 g1 g2 g3 g4 g5 g6 g7 g8 g9 v0 v1 v2 v3 v4 v5 v6 v7 v8 v9
    replace c0 := bkeep hA c0
    replace c1 := bkeep hA c1
    replace c2 := bkeep hA c2
    replace c3 := bkeep hA c3
    replace c4 := bkeep hA c4
    replace c5 := bkeep hA c5
    replace c6 := bkeep hA c6
    replace c7 := bkeep hA c7
    replace c8 := bkeep hA c8
    replace c9 := bkeep hA c9
    replace HB := bt HB hA
    clear hA hz1
    generalize W1.alloc (.cells #[.int .i64 0, .int .i64 0, .int .i64 0, .string ⟨#[]⟩, .int .i64 0, .int .i64 0, .string ⟨#[]⟩, .int .i64 0, .int .i64 0, .string ⟨#[]⟩] 27) = W2 at *
    refine (K.out _).mono ?_
    rintro e' W5 ⟨rfl, hA⟩
    replace c0 := bkeep hA c0
    replace c1 := bkeep hA c1
    replace c2 := bkeep hA c2
    replace c3 := bkeep hA c3
    replace c4 := bkeep hA c4
    replace c5 := bkeep hA c5
    replace c6 := bkeep hA c6
    replace c7 := bkeep hA c7
    replace c8 := bkeep hA c8
    replace c9 := bkeep hA c9
    replace v0 := bfree hA g0 v0
    replace v1 := bfree hA g1 v1
    replace v2 := bfree hA g2 v2
    replace v3 := bfree hA g3 v3
    replace v4 := bfree hA g4 v4
    replace v5 := bfree hA g5 v5
    replace v6 := bfree hA g6 v6
    replace v7 := bfree hA g7 v7
    replace v8 := bfree hA g8 v8
    replace v9 := bfree hA g9 v9
    replace g0 := bkeep hA g0
    replace g1 := bkeep hA g1
    replace g2 := bkeep hA g2
    replace g3 := bkeep hA g3
    replace g4 := bkeep hA g4
    replace g5 := bkeep hA g5
    replace g6 := bkeep hA g6
    replace g7 := bkeep hA g7
    replace g8 := bkeep hA g8
    replace g9 := bkeep hA g9
    replace HB := bt HB hA
    clear hA
    have hn2 := lt_ne g0
    have hn3 := fun h => hn2 (Eq.symm h)
    go_wp2_with (first | (go_at_call 31; (with_reducible refine (C.out _).mono ?_); rintro e' W6 ⟨rfl, hA⟩; replace c0 := bkeep hA c0; replace c1 := bkeep hA c1; replace c2 := bkeep hA c2; replace c3 := bkeep hA c3; replace c4 := bkeep hA c4; replace c5 := bkeep hA c5; replace c6 := bkeep hA c6; replace c7 := bkeep hA c7; replace c8 := bkeep hA c8; replace c9 := bkeep hA c9; replace v0 := bfree hA g0 v0; replace v1 := bfree hA g1 v1; replace v2 := bfree hA g2 v2; replace v3 := bfree hA g3 v3; replace v4 := bfree hA g4 v4; replace v5 := bfree hA g5 v5; replace v6 := bfree hA g6 v6; replace v7 := bfree hA g7 v7; replace v8 := bfree hA g8 v8; replace v9 := bfree hA g9 v9; replace g0 := bkeep hA g0; replace g1 := bkeep hA g1; replace g2 := bkeep hA g2; replace g3 := bkeep hA g3; replace g4 := bkeep hA g4; replace g5 := bkeep hA g5; replace g6 := bkeep hA g6; replace g7 := bkeep hA g7; replace g8 := bkeep hA g8; replace g9 := bkeep hA g9; replace HB := bt HB hA; clear hA hn2 hn3; have hn2 := lt_ne g0; have hn3 := fun h => hn2 (Eq.symm h)) | (go_at_call 32; (with_reducible refine (C.out _).mono ?_); rintro e' W6 ⟨rfl, hA⟩; replace c0 := bkeep hA c0; replace c1 := bkeep hA c1; replace c2 := bkeep hA c2; replace c3 := bkeep hA c3; replace c4 := bkeep hA c4; replace c5 := bkeep hA c5; replace c6 := bkeep hA c6; replace c7 := bkeep hA c7; replace c8 := bkeep hA c8; replace c9 := bkeep hA c9; replace v0 := bfree hA g0 v0; replace v1 := bfree hA g1 v1; replace v2 := bfree hA g2 v2; replace v3 := bfree hA g3 v3; replace v4 := bfree hA g4 v4; replace v5 := bfree hA g5 v5; replace v6 := bfree hA g6 v6; replace v7 := bfree hA g7 v7; replace v8 := bfree hA g8 v8; replace v9 := bfree hA g9 v9; replace g0 := bkeep hA g0; replace g1 := bkeep hA g1; replace g2 := bkeep hA g2; replace g3 := bkeep hA g3; replace g4 := bkeep hA g4; replace g5 := bkeep hA g5; replace g6 := bkeep hA g6; replace g7 := bkeep hA g7; replace g8 := bkeep hA g8; replace g9 := bkeep hA g9; replace HB := bt HB hA; clear hA hn2 hn3; have hA := (Below.refl W6.heap.size W6).alloc (Nat.le_refl _) (Obj.cells #[.int .i64 x, .int .i64 y] 23); replace c0 := bkeep hA c0; replace c1 := bkeep hA c1; replace c2 := bkeep hA c2; replace c3 := bkeep hA c3; replace c4 := bkeep hA c4; replace c5 := bkeep hA c5; replace c6 := bkeep hA c6; replace c7 := bkeep hA c7; replace c8 := bkeep hA c8; replace c9 := bkeep hA c9; replace v0 := bfree hA g0 v0; replace v1 := bfree hA g1 v1; replace v2 := bfree hA g2 v2; replace v3 := bfree hA g3 v3; replace v4 := bfree hA g4 v4; replace v5 := bfree hA g5 v5; replace v6 := bfree hA g6 v6; replace v7 := bfree hA g7 v7; replace v8 := bfree hA g8 v8; replace v9 := bfree hA g9 v9; replace g0 := bkeep hA g0; replace g1 := bkeep hA g1; replace g2 := bkeep hA g2; replace g3 := bkeep hA g3; replace g4 := bkeep hA g4; replace g5 := bkeep hA g5; replace g6 := bkeep hA g6; replace g7 := bkeep hA g7; replace g8 := bkeep hA g8; replace g9 := bkeep hA g9; replace HB := bt HB hA; clear hA; have hn2 := lt_ne g0; have hn3 := fun h => hn2 (Eq.symm h)))
    exact bodyPost_ret (v := .tuple #[(st0).v, .int .i64 (E2)]) (by simp [results, Try.results15, go_sem, g0, g1, g2, g3, g4, g5, g6, g7, g8, g9, onS, st0, hn2, hn3]) rfl ⟨by rw [HF.out.1, HF.out.2], by repeat (first | with_reducible exact HB | with_reducible refine Below.drew ?_ | with_reducible refine Below.setCell ?_ (by first | (simp; done) | (simp; omega)) _ | with_reducible refine Below.alloc ?_ (by first | (simp; done) | (simp; omega)) _)⟩
set_option maxHeartbeats 6400000 in
theorem rwrite_any (k a b : Int) (d : ByteArray) (p q : Int) (e : ByteArray) (r s : Int) (f : ByteArray) (node boot : Int) (t : ByteArray) (w : World) (ha : a ≤ 9223372036854775807) (hb : b ≤ 9223372036854775807) (ht : boot ≤ 9223372036854775807) : Calls Try.prog 16 #[SS k a b d p q e r s f, .int .i64 node, .int .i64 boot, .string t] w fun e' w' => e' = .returned (.tuple #[(wrS ⟨k, a, b, d, ⟨p, q, e⟩, ⟨r, s, f⟩⟩ node boot t).v, .int .i64 (wrE ⟨k, a, b, d, ⟨p, q, e⟩, ⟨r, s, f⟩⟩ node boot t)]) ∧ Below w.heap.size w w' := by
  have HA := Lib.hid (And.intro ha (And.intro hb ht))
  clear ha hb ht
  have HE : wrE ⟨k, a, b, d, ⟨p, q, e⟩, ⟨r, s, f⟩⟩ node boot t = if chkE ⟨k, a, b, d, ⟨p, q, e⟩, ⟨r, s, f⟩⟩ = 0 then (if k = 1 then 14 else if t.size ≠ 128 then 12 else bumpE a b node boot) else chkE ⟨k, a, b, d, ⟨p, q, e⟩, ⟨r, s, f⟩⟩ := rfl
  have HS : wrS ⟨k, a, b, d, ⟨p, q, e⟩, ⟨r, s, f⟩⟩ node boot t = if wrE ⟨k, a, b, d, ⟨p, q, e⟩, ⟨r, s, f⟩⟩ node boot t = 0 then onS (bumpA a b node boot) (bumpB a b node boot) t else st0 := rfl
  have HBP : plnS a b node boot t = if bumpE a b node boot = 0 then onS (bumpA a b node boot) (bumpB a b node boot) t else st0 := rfl
  obtain ⟨E, hE⟩ : ∃ x, chkE ⟨k, a, b, d, ⟨p, q, e⟩, ⟨r, s, f⟩⟩ = x := ⟨_, rfl⟩
  have K := Lib.hid (fun w => rchk_at hE w)
  rw [hE] at HE
  clear hE
  by_cases h0 : E = 0
  case neg =>
    rw [if_neg h0] at HE
    rw [HE, if_neg h0] at HS
    have HF := Lib.hid (And.intro HS HE)
    have hne : (E != 0) = true := bne_iff_ne.2 h0
    clear HE HS HBP h0
    obtain ⟨c0, c1, c2, c3, c4, c5, c6, c7, c8, c9⟩ := held10 (w := w) (k := k) (a := a) (b := b) (d := d) (p := p) (q := q) (e := e) (r := r) (s := s) (f := f) 27
    have HB : Below w.heap.size w (w.alloc (.cells #[.int .i64 k, .int .i64 a, .int .i64 b, .string d, .int .i64 p, .int .i64 q, .string e, .int .i64 r, .int .i64 s, .string f] 27)) := (Below.refl _ _).alloc (Nat.le_refl _) _
    have hz1 : (w.alloc (.cells #[.int .i64 k, .int .i64 a, .int .i64 b, .string d, .int .i64 p, .int .i64 q, .string e, .int .i64 r, .int .i64 s, .string f] 27)).heap.size = w.heap.size + 1 := by simp
    go_enter Try.func16, Try.ntmps16
    go_wp2_with fail
    generalize w.alloc (.cells #[.int .i64 k, .int .i64 a, .int .i64 b, .string d, .int .i64 p, .int .i64 q, .string e, .int .i64 r, .int .i64 s, .string f] 27) = W1 at *
    obtain ⟨g0, g1, g2, g3, g4, g5, g6, g7, g8, g9⟩ := held10 (w := W1) (k := 0) (a := 0) (b := 0) (d := ⟨#[]⟩) (p := 0) (q := 0) (e := ⟨#[]⟩) (r := 0) (s := 0) (f := ⟨#[]⟩) 27
    obtain ⟨v0, v1, v2, v3, v4, v5, v6, v7, v8, v9⟩ := free10 (w := W1) (k := 0) (a := 0) (b := 0) (d := ⟨#[]⟩) (p := 0) (q := 0) (e := ⟨#[]⟩) (r := 0) (s := 0) (f := ⟨#[]⟩) 27
    have hA : Below W1.heap.size W1 (W1.alloc (.cells #[.int .i64 0, .int .i64 0, .int .i64 0, .string ⟨#[]⟩, .int .i64 0, .int .i64 0, .string ⟨#[]⟩, .int .i64 0, .int .i64 0, .string ⟨#[]⟩] 27)) := (Below.refl _ _).alloc (Nat.le_refl _) _
    rw [hz1] at g0 g1 g2 g3 g4 g5 g6 g7 g8 g9 v0 v1 v2 v3 v4 v5 v6 v7 v8 v9
    replace c0 := bkeep hA c0
    replace c1 := bkeep hA c1
    replace c2 := bkeep hA c2
    replace c3 := bkeep hA c3
    replace c4 := bkeep hA c4
    replace c5 := bkeep hA c5
    replace c6 := bkeep hA c6
    replace c7 := bkeep hA c7
    replace c8 := bkeep hA c8
    replace c9 := bkeep hA c9
    replace HB := bt HB hA
    clear hA hz1
    generalize W1.alloc (.cells #[.int .i64 0, .int .i64 0, .int .i64 0, .string ⟨#[]⟩, .int .i64 0, .int .i64 0, .string ⟨#[]⟩, .int .i64 0, .int .i64 0, .string ⟨#[]⟩] 27) = W2 at *
    refine (K.out _).mono ?_
    rintro e' W5 ⟨rfl, hA⟩
    replace c0 := bkeep hA c0
    replace c1 := bkeep hA c1
    replace c2 := bkeep hA c2
    replace c3 := bkeep hA c3
    replace c4 := bkeep hA c4
    replace c5 := bkeep hA c5
    replace c6 := bkeep hA c6
    replace c7 := bkeep hA c7
    replace c8 := bkeep hA c8
    replace c9 := bkeep hA c9
    replace v0 := bfree hA g0 v0
    replace v1 := bfree hA g1 v1
    replace v2 := bfree hA g2 v2
    replace v3 := bfree hA g3 v3
    replace v4 := bfree hA g4 v4
    replace v5 := bfree hA g5 v5
    replace v6 := bfree hA g6 v6
    replace v7 := bfree hA g7 v7
    replace v8 := bfree hA g8 v8
    replace v9 := bfree hA g9 v9
    replace g0 := bkeep hA g0
    replace g1 := bkeep hA g1
    replace g2 := bkeep hA g2
    replace g3 := bkeep hA g3
    replace g4 := bkeep hA g4
    replace g5 := bkeep hA g5
    replace g6 := bkeep hA g6
    replace g7 := bkeep hA g7
    replace g8 := bkeep hA g8
    replace g9 := bkeep hA g9
    replace HB := bt HB hA
    clear hA
    have hn2 := lt_ne g0
    have hn3 := fun h => hn2 (Eq.symm h)
    go_wp2
    exact bodyPost_ret (v := .tuple #[(st0).v, .int .i64 (E)]) (by simp [results, Try.results16, go_sem, g0, g1, g2, g3, g4, g5, g6, g7, g8, g9, onS, st0, hn2, hn3]) rfl ⟨by rw [HF.out.1, HF.out.2], by repeat (first | with_reducible exact HB | with_reducible refine Below.drew ?_ | with_reducible refine Below.setCell ?_ (by first | (simp; done) | (simp; omega)) _ | with_reducible refine Below.alloc ?_ (by first | (simp; done) | (simp; omega)) _)⟩
  subst h0
  rw [if_pos rfl] at HE
  by_cases h1 : k = 1
  · rw [if_pos h1] at HE
    rw [HE, if_neg (by decide)] at HS
    have HF := Lib.hid (And.intro HS HE)
    have hk1 : (k == 1) = true := beq_iff_eq.2 h1
    clear HE HS HBP h1
    obtain ⟨c0, c1, c2, c3, c4, c5, c6, c7, c8, c9⟩ := held10 (w := w) (k := k) (a := a) (b := b) (d := d) (p := p) (q := q) (e := e) (r := r) (s := s) (f := f) 27
    have HB : Below w.heap.size w (w.alloc (.cells #[.int .i64 k, .int .i64 a, .int .i64 b, .string d, .int .i64 p, .int .i64 q, .string e, .int .i64 r, .int .i64 s, .string f] 27)) := (Below.refl _ _).alloc (Nat.le_refl _) _
    have hz1 : (w.alloc (.cells #[.int .i64 k, .int .i64 a, .int .i64 b, .string d, .int .i64 p, .int .i64 q, .string e, .int .i64 r, .int .i64 s, .string f] 27)).heap.size = w.heap.size + 1 := by simp
    go_enter Try.func16, Try.ntmps16
    go_wp2_with fail
    generalize w.alloc (.cells #[.int .i64 k, .int .i64 a, .int .i64 b, .string d, .int .i64 p, .int .i64 q, .string e, .int .i64 r, .int .i64 s, .string f] 27) = W1 at *
    obtain ⟨g0, g1, g2, g3, g4, g5, g6, g7, g8, g9⟩ := held10 (w := W1) (k := 0) (a := 0) (b := 0) (d := ⟨#[]⟩) (p := 0) (q := 0) (e := ⟨#[]⟩) (r := 0) (s := 0) (f := ⟨#[]⟩) 27
    obtain ⟨v0, v1, v2, v3, v4, v5, v6, v7, v8, v9⟩ := free10 (w := W1) (k := 0) (a := 0) (b := 0) (d := ⟨#[]⟩) (p := 0) (q := 0) (e := ⟨#[]⟩) (r := 0) (s := 0) (f := ⟨#[]⟩) 27
    have hA : Below W1.heap.size W1 (W1.alloc (.cells #[.int .i64 0, .int .i64 0, .int .i64 0, .string ⟨#[]⟩, .int .i64 0, .int .i64 0, .string ⟨#[]⟩, .int .i64 0, .int .i64 0, .string ⟨#[]⟩] 27)) := (Below.refl _ _).alloc (Nat.le_refl _) _
    rw [hz1] at g0 g1 g2 g3 g4 g5 g6 g7 g8 g9 v0 v1 v2 v3 v4 v5 v6 v7 v8 v9
    replace c0 := bkeep hA c0
    replace c1 := bkeep hA c1
    replace c2 := bkeep hA c2
    replace c3 := bkeep hA c3
    replace c4 := bkeep hA c4
    replace c5 := bkeep hA c5
    replace c6 := bkeep hA c6
    replace c7 := bkeep hA c7
    replace c8 := bkeep hA c8
    replace c9 := bkeep hA c9
    replace HB := bt HB hA
    clear hA hz1
    generalize W1.alloc (.cells #[.int .i64 0, .int .i64 0, .int .i64 0, .string ⟨#[]⟩, .int .i64 0, .int .i64 0, .string ⟨#[]⟩, .int .i64 0, .int .i64 0, .string ⟨#[]⟩] 27) = W2 at *
    refine (K.out _).mono ?_
    rintro e' W5 ⟨rfl, hA⟩
    replace c0 := bkeep hA c0
    replace c1 := bkeep hA c1
    replace c2 := bkeep hA c2
    replace c3 := bkeep hA c3
    replace c4 := bkeep hA c4
    replace c5 := bkeep hA c5
    replace c6 := bkeep hA c6
    replace c7 := bkeep hA c7
    replace c8 := bkeep hA c8
    replace c9 := bkeep hA c9
    replace v0 := bfree hA g0 v0
    replace v1 := bfree hA g1 v1
    replace v2 := bfree hA g2 v2
    replace v3 := bfree hA g3 v3
    replace v4 := bfree hA g4 v4
    replace v5 := bfree hA g5 v5
    replace v6 := bfree hA g6 v6
    replace v7 := bfree hA g7 v7
    replace v8 := bfree hA g8 v8
    replace v9 := bfree hA g9 v9
    replace g0 := bkeep hA g0
    replace g1 := bkeep hA g1
    replace g2 := bkeep hA g2
    replace g3 := bkeep hA g3
    replace g4 := bkeep hA g4
    replace g5 := bkeep hA g5
    replace g6 := bkeep hA g6
    replace g7 := bkeep hA g7
    replace g8 := bkeep hA g8
    replace g9 := bkeep hA g9
    replace HB := bt HB hA
    clear hA
    have hn2 := lt_ne g0
    have hn3 := fun h => hn2 (Eq.symm h)
    go_wp2
    exact bodyPost_ret (v := .tuple #[(st0).v, .int .i64 (14)]) (by simp [results, Try.results16, go_sem, g0, g1, g2, g3, g4, g5, g6, g7, g8, g9, onS, st0, hn2, hn3]) rfl ⟨by rw [HF.out.1, HF.out.2], by repeat (first | with_reducible exact HB | with_reducible refine Below.drew ?_ | with_reducible refine Below.setCell ?_ (by first | (simp; done) | (simp; omega)) _ | with_reducible refine Below.alloc ?_ (by first | (simp; done) | (simp; omega)) _)⟩
  have hk1 : (k == 1) = false := beq_eq_false_iff_ne.2 h1
  rw [if_neg h1] at HE
  clear h1
  by_cases hd : t.size = 128
  case neg =>
    rw [if_pos hd] at HE
    rw [HE, if_neg (by decide)] at HS
    have HF := Lib.hid (And.intro HS HE)
    have hdz := size_ne hd
    clear HE HS HBP hd
    obtain ⟨c0, c1, c2, c3, c4, c5, c6, c7, c8, c9⟩ := held10 (w := w) (k := k) (a := a) (b := b) (d := d) (p := p) (q := q) (e := e) (r := r) (s := s) (f := f) 27
    have HB : Below w.heap.size w (w.alloc (.cells #[.int .i64 k, .int .i64 a, .int .i64 b, .string d, .int .i64 p, .int .i64 q, .string e, .int .i64 r, .int .i64 s, .string f] 27)) := (Below.refl _ _).alloc (Nat.le_refl _) _
    have hz1 : (w.alloc (.cells #[.int .i64 k, .int .i64 a, .int .i64 b, .string d, .int .i64 p, .int .i64 q, .string e, .int .i64 r, .int .i64 s, .string f] 27)).heap.size = w.heap.size + 1 := by simp
    go_enter Try.func16, Try.ntmps16
    go_wp2_with fail
    generalize w.alloc (.cells #[.int .i64 k, .int .i64 a, .int .i64 b, .string d, .int .i64 p, .int .i64 q, .string e, .int .i64 r, .int .i64 s, .string f] 27) = W1 at *
    obtain ⟨g0, g1, g2, g3, g4, g5, g6, g7, g8, g9⟩ := held10 (w := W1) (k := 0) (a := 0) (b := 0) (d := ⟨#[]⟩) (p := 0) (q := 0) (e := ⟨#[]⟩) (r := 0) (s := 0) (f := ⟨#[]⟩) 27
    obtain ⟨v0, v1, v2, v3, v4, v5, v6, v7, v8, v9⟩ := free10 (w := W1) (k := 0) (a := 0) (b := 0) (d := ⟨#[]⟩) (p := 0) (q := 0) (e := ⟨#[]⟩) (r := 0) (s := 0) (f := ⟨#[]⟩) 27
    have hA : Below W1.heap.size W1 (W1.alloc (.cells #[.int .i64 0, .int .i64 0, .int .i64 0, .string ⟨#[]⟩, .int .i64 0, .int .i64 0, .string ⟨#[]⟩, .int .i64 0, .int .i64 0, .string ⟨#[]⟩] 27)) := (Below.refl _ _).alloc (Nat.le_refl _) _
    rw [hz1] at g0 g1 g2 g3 g4 g5 g6 g7 g8 g9 v0 v1 v2 v3 v4 v5 v6 v7 v8 v9
    replace c0 := bkeep hA c0
    replace c1 := bkeep hA c1
    replace c2 := bkeep hA c2
    replace c3 := bkeep hA c3
    replace c4 := bkeep hA c4
    replace c5 := bkeep hA c5
    replace c6 := bkeep hA c6
    replace c7 := bkeep hA c7
    replace c8 := bkeep hA c8
    replace c9 := bkeep hA c9
    replace HB := bt HB hA
    clear hA hz1
    generalize W1.alloc (.cells #[.int .i64 0, .int .i64 0, .int .i64 0, .string ⟨#[]⟩, .int .i64 0, .int .i64 0, .string ⟨#[]⟩, .int .i64 0, .int .i64 0, .string ⟨#[]⟩] 27) = W2 at *
    refine (K.out _).mono ?_
    rintro e' W5 ⟨rfl, hA⟩
    replace c0 := bkeep hA c0
    replace c1 := bkeep hA c1
    replace c2 := bkeep hA c2
    replace c3 := bkeep hA c3
    replace c4 := bkeep hA c4
    replace c5 := bkeep hA c5
    replace c6 := bkeep hA c6
    replace c7 := bkeep hA c7
    replace c8 := bkeep hA c8
    replace c9 := bkeep hA c9
    replace v0 := bfree hA g0 v0
    replace v1 := bfree hA g1 v1
    replace v2 := bfree hA g2 v2
    replace v3 := bfree hA g3 v3
    replace v4 := bfree hA g4 v4
    replace v5 := bfree hA g5 v5
    replace v6 := bfree hA g6 v6
    replace v7 := bfree hA g7 v7
    replace v8 := bfree hA g8 v8
    replace v9 := bfree hA g9 v9
    replace g0 := bkeep hA g0
    replace g1 := bkeep hA g1
    replace g2 := bkeep hA g2
    replace g3 := bkeep hA g3
    replace g4 := bkeep hA g4
    replace g5 := bkeep hA g5
    replace g6 := bkeep hA g6
    replace g7 := bkeep hA g7
    replace g8 := bkeep hA g8
    replace g9 := bkeep hA g9
    replace HB := bt HB hA
    clear hA
    have hn2 := lt_ne g0
    have hn3 := fun h => hn2 (Eq.symm h)
    go_wp2
    exact bodyPost_ret (v := .tuple #[(st0).v, .int .i64 (12)]) (by simp [results, Try.results16, go_sem, g0, g1, g2, g3, g4, g5, g6, g7, g8, g9, onS, st0, hn2, hn3]) rfl ⟨by rw [HF.out.1, HF.out.2], by repeat (first | with_reducible exact HB | with_reducible refine Below.drew ?_ | with_reducible refine Below.setCell ?_ (by first | (simp; done) | (simp; omega)) _ | with_reducible refine Below.alloc ?_ (by first | (simp; done) | (simp; omega)) _)⟩
  have hdz := size_eq hd
  rw [if_neg (fun h => h hd)] at HE
  clear hd
  obtain ⟨x, hx⟩ : ∃ x, bumpA a b node boot = x := ⟨_, rfl⟩
  obtain ⟨y, hy⟩ : ∃ x, bumpB a b node boot = x := ⟨_, rfl⟩
  obtain ⟨E2, hE2⟩ : ∃ x, bumpE a b node boot = x := ⟨_, rfl⟩
  rw [hx, hy] at HS HBP
  rw [hE2] at HE HBP
  by_cases h0 : E2 = 0
  · subst h0
    rw [if_pos rfl] at HBP
    rw [HE, if_pos rfl] at HS
    have HF := Lib.hid (And.intro HS HE)
    have C := Lib.hid (fun w => rbump_at hx hy hE2 w HA.out.1 HA.out.2.1 HA.out.2.2)
    clear HE HS HBP hx hy hE2
    obtain ⟨c0, c1, c2, c3, c4, c5, c6, c7, c8, c9⟩ := held10 (w := w) (k := k) (a := a) (b := b) (d := d) (p := p) (q := q) (e := e) (r := r) (s := s) (f := f) 27
    have HB : Below w.heap.size w (w.alloc (.cells #[.int .i64 k, .int .i64 a, .int .i64 b, .string d, .int .i64 p, .int .i64 q, .string e, .int .i64 r, .int .i64 s, .string f] 27)) := (Below.refl _ _).alloc (Nat.le_refl _) _
    have hz1 : (w.alloc (.cells #[.int .i64 k, .int .i64 a, .int .i64 b, .string d, .int .i64 p, .int .i64 q, .string e, .int .i64 r, .int .i64 s, .string f] 27)).heap.size = w.heap.size + 1 := by simp
    go_enter Try.func16, Try.ntmps16
    go_wp2_with fail
    generalize w.alloc (.cells #[.int .i64 k, .int .i64 a, .int .i64 b, .string d, .int .i64 p, .int .i64 q, .string e, .int .i64 r, .int .i64 s, .string f] 27) = W1 at *
    obtain ⟨g0, g1, g2, g3, g4, g5, g6, g7, g8, g9⟩ := held10 (w := W1) (k := 0) (a := 0) (b := 0) (d := ⟨#[]⟩) (p := 0) (q := 0) (e := ⟨#[]⟩) (r := 0) (s := 0) (f := ⟨#[]⟩) 27
    obtain ⟨v0, v1, v2, v3, v4, v5, v6, v7, v8, v9⟩ := free10 (w := W1) (k := 0) (a := 0) (b := 0) (d := ⟨#[]⟩) (p := 0) (q := 0) (e := ⟨#[]⟩) (r := 0) (s := 0) (f := ⟨#[]⟩) 27
    have hA : Below W1.heap.size W1 (W1.alloc (.cells #[.int .i64 0, .int .i64 0, .int .i64 0, .string ⟨#[]⟩, .int .i64 0, .int .i64 0, .string ⟨#[]⟩, .int .i64 0, .int .i64 0, .string ⟨#[]⟩] 27)) := (Below.refl _ _).alloc (Nat.le_refl _) _
    rw [hz1] at g0 g1 g2 g3 g4 g5 g6 g7 g8 g9 v0 v1 v2 v3 v4 v5 v6 v7 v8 v9
    replace c0 := bkeep hA c0
    replace c1 := bkeep hA c1
    replace c2 := bkeep hA c2
    replace c3 := bkeep hA c3
    replace c4 := bkeep hA c4
    replace c5 := bkeep hA c5
    replace c6 := bkeep hA c6
    replace c7 := bkeep hA c7
    replace c8 := bkeep hA c8
    replace c9 := bkeep hA c9
    replace HB := bt HB hA
    clear hA hz1
    generalize W1.alloc (.cells #[.int .i64 0, .int .i64 0, .int .i64 0, .string ⟨#[]⟩, .int .i64 0, .int .i64 0, .string ⟨#[]⟩, .int .i64 0, .int .i64 0, .string ⟨#[]⟩] 27) = W2 at *
    refine (K.out _).mono ?_
    rintro e' W5 ⟨rfl, hA⟩
    replace c0 := bkeep hA c0
    replace c1 := bkeep hA c1
    replace c2 := bkeep hA c2
    replace c3 := bkeep hA c3
    replace c4 := bkeep hA c4
    replace c5 := bkeep hA c5
    replace c6 := bkeep hA c6
    replace c7 := bkeep hA c7
    replace c8 := bkeep hA c8
    replace c9 := bkeep hA c9
    replace v0 := bfree hA g0 v0
    replace v1 := bfree hA g1 v1
    replace v2 := bfree hA g2 v2
    replace v3 := bfree hA g3 v3
    replace v4 := bfree hA g4 v4
    replace v5 := bfree hA g5 v5
    replace v6 := bfree hA g6 v6
    replace v7 := bfree hA g7 v7
    replace v8 := bfree hA g8 v8
    replace v9 := bfree hA g9 v9
    replace g0 := bkeep hA g0
    replace g1 := bkeep hA g1
    replace g2 := bkeep hA g2
    replace g3 := bkeep hA g3
    replace g4 := bkeep hA g4
    replace g5 := bkeep hA g5
    replace g6 := bkeep hA g6
    replace g7 := bkeep hA g7
    replace g8 := bkeep hA g8
    replace g9 := bkeep hA g9
    replace HB := bt HB hA
    clear hA
    have hn2 := lt_ne g0
    have hn3 := fun h => hn2 (Eq.symm h)
    go_wp2_with (first | (go_at_call 31; (with_reducible refine (C.out _).mono ?_); rintro e' W6 ⟨rfl, hA⟩; replace c0 := bkeep hA c0; replace c1 := bkeep hA c1; replace c2 := bkeep hA c2; replace c3 := bkeep hA c3; replace c4 := bkeep hA c4; replace c5 := bkeep hA c5; replace c6 := bkeep hA c6; replace c7 := bkeep hA c7; replace c8 := bkeep hA c8; replace c9 := bkeep hA c9; replace v0 := bfree hA g0 v0; replace v1 := bfree hA g1 v1; replace v2 := bfree hA g2 v2; replace v3 := bfree hA g3 v3; replace v4 := bfree hA g4 v4; replace v5 := bfree hA g5 v5; replace v6 := bfree hA g6 v6; replace v7 := bfree hA g7 v7; replace v8 := bfree hA g8 v8; replace v9 := bfree hA g9 v9; replace g0 := bkeep hA g0; replace g1 := bkeep hA g1; replace g2 := bkeep hA g2; replace g3 := bkeep hA g3; replace g4 := bkeep hA g4; replace g5 := bkeep hA g5; replace g6 := bkeep hA g6; replace g7 := bkeep hA g7; replace g8 := bkeep hA g8; replace g9 := bkeep hA g9; replace HB := bt HB hA; clear hA hn2 hn3; have hn2 := lt_ne g0; have hn3 := fun h => hn2 (Eq.symm h)) | (go_at_call 32; (with_reducible refine (C.out _).mono ?_); rintro e' W6 ⟨rfl, hA⟩; replace c0 := bkeep hA c0; replace c1 := bkeep hA c1; replace c2 := bkeep hA c2; replace c3 := bkeep hA c3; replace c4 := bkeep hA c4; replace c5 := bkeep hA c5; replace c6 := bkeep hA c6; replace c7 := bkeep hA c7; replace c8 := bkeep hA c8; replace c9 := bkeep hA c9; replace v0 := bfree hA g0 v0; replace v1 := bfree hA g1 v1; replace v2 := bfree hA g2 v2; replace v3 := bfree hA g3 v3; replace v4 := bfree hA g4 v4; replace v5 := bfree hA g5 v5; replace v6 := bfree hA g6 v6; replace v7 := bfree hA g7 v7; replace v8 := bfree hA g8 v8; replace v9 := bfree hA g9 v9; replace g0 := bkeep hA g0; replace g1 := bkeep hA g1; replace g2 := bkeep hA g2; replace g3 := bkeep hA g3; replace g4 := bkeep hA g4; replace g5 := bkeep hA g5; replace g6 := bkeep hA g6; replace g7 := bkeep hA g7; replace g8 := bkeep hA g8; replace g9 := bkeep hA g9; replace HB := bt HB hA; clear hA hn2 hn3; have hA := (Below.refl W6.heap.size W6).alloc (Nat.le_refl _) (Obj.cells #[.int .i64 x, .int .i64 y] 23); replace c0 := bkeep hA c0; replace c1 := bkeep hA c1; replace c2 := bkeep hA c2; replace c3 := bkeep hA c3; replace c4 := bkeep hA c4; replace c5 := bkeep hA c5; replace c6 := bkeep hA c6; replace c7 := bkeep hA c7; replace c8 := bkeep hA c8; replace c9 := bkeep hA c9; replace v0 := bfree hA g0 v0; replace v1 := bfree hA g1 v1; replace v2 := bfree hA g2 v2; replace v3 := bfree hA g3 v3; replace v4 := bfree hA g4 v4; replace v5 := bfree hA g5 v5; replace v6 := bfree hA g6 v6; replace v7 := bfree hA g7 v7; replace v8 := bfree hA g8 v8; replace v9 := bfree hA g9 v9; replace g0 := bkeep hA g0; replace g1 := bkeep hA g1; replace g2 := bkeep hA g2; replace g3 := bkeep hA g3; replace g4 := bkeep hA g4; replace g5 := bkeep hA g5; replace g6 := bkeep hA g6; replace g7 := bkeep hA g7; replace g8 := bkeep hA g8; replace g9 := bkeep hA g9; replace HB := bt HB hA; clear hA; have hn2 := lt_ne g0; have hn3 := fun h => hn2 (Eq.symm h)))
    exact bodyPost_ret (v := .tuple #[(onS x y t).v, .int .i64 (0)]) (by simp [results, Try.results16, go_sem, g0, g1, g2, g3, g4, g5, g6, g7, g8, g9, onS, st0, hn2, hn3]) rfl ⟨by rw [HF.out.1, HF.out.2], by repeat (first | with_reducible exact HB | with_reducible refine Below.drew ?_ | with_reducible refine Below.setCell ?_ (by first | (simp; done) | (simp; omega)) _ | with_reducible refine Below.alloc ?_ (by first | (simp; done) | (simp; omega)) _)⟩
  · rw [if_neg h0] at HBP
    rw [HE, if_neg h0] at HS
    have HF := Lib.hid (And.intro HS HE)
    have hne : (E2 != 0) = true := bne_iff_ne.2 h0
    have C := Lib.hid (fun w => rbump_at hx hy hE2 w HA.out.1 HA.out.2.1 HA.out.2.2)
    clear HE HS HBP hx hy hE2 h0
    obtain ⟨c0, c1, c2, c3, c4, c5, c6, c7, c8, c9⟩ := held10 (w := w) (k := k) (a := a) (b := b) (d := d) (p := p) (q := q) (e := e) (r := r) (s := s) (f := f) 27
    have HB : Below w.heap.size w (w.alloc (.cells #[.int .i64 k, .int .i64 a, .int .i64 b, .string d, .int .i64 p, .int .i64 q, .string e, .int .i64 r, .int .i64 s, .string f] 27)) := (Below.refl _ _).alloc (Nat.le_refl _) _
    have hz1 : (w.alloc (.cells #[.int .i64 k, .int .i64 a, .int .i64 b, .string d, .int .i64 p, .int .i64 q, .string e, .int .i64 r, .int .i64 s, .string f] 27)).heap.size = w.heap.size + 1 := by simp
    go_enter Try.func16, Try.ntmps16
    go_wp2_with fail
    generalize w.alloc (.cells #[.int .i64 k, .int .i64 a, .int .i64 b, .string d, .int .i64 p, .int .i64 q, .string e, .int .i64 r, .int .i64 s, .string f] 27) = W1 at *
    obtain ⟨g0, g1, g2, g3, g4, g5, g6, g7, g8, g9⟩ := held10 (w := W1) (k := 0) (a := 0) (b := 0) (d := ⟨#[]⟩) (p := 0) (q := 0) (e := ⟨#[]⟩) (r := 0) (s := 0) (f := ⟨#[]⟩) 27
    obtain ⟨v0, v1, v2, v3, v4, v5, v6, v7, v8, v9⟩ := free10 (w := W1) (k := 0) (a := 0) (b := 0) (d := ⟨#[]⟩) (p := 0) (q := 0) (e := ⟨#[]⟩) (r := 0) (s := 0) (f := ⟨#[]⟩) 27
    have hA : Below W1.heap.size W1 (W1.alloc (.cells #[.int .i64 0, .int .i64 0, .int .i64 0, .string ⟨#[]⟩, .int .i64 0, .int .i64 0, .string ⟨#[]⟩, .int .i64 0, .int .i64 0, .string ⟨#[]⟩] 27)) := (Below.refl _ _).alloc (Nat.le_refl _) _
    rw [hz1] at g0 g1 g2 g3 g4 g5 g6 g7 g8 g9 v0 v1 v2 v3 v4 v5 v6 v7 v8 v9
    replace c0 := bkeep hA c0
    replace c1 := bkeep hA c1
    replace c2 := bkeep hA c2
    replace c3 := bkeep hA c3
    replace c4 := bkeep hA c4
    replace c5 := bkeep hA c5
    replace c6 := bkeep hA c6
    replace c7 := bkeep hA c7
    replace c8 := bkeep hA c8
    replace c9 := bkeep hA c9
    replace HB := bt HB hA
    clear hA hz1
    generalize W1.alloc (.cells #[.int .i64 0, .int .i64 0, .int .i64 0, .string ⟨#[]⟩, .int .i64 0, .int .i64 0, .string ⟨#[]⟩, .int .i64 0, .int .i64 0, .string ⟨#[]⟩] 27) = W2 at *
    refine (K.out _).mono ?_
    rintro e' W5 ⟨rfl, hA⟩
    replace c0 := bkeep hA c0
    replace c1 := bkeep hA c1
    replace c2 := bkeep hA c2
    replace c3 := bkeep hA c3
    replace c4 := bkeep hA c4
    replace c5 := bkeep hA c5
    replace c6 := bkeep hA c6
    replace c7 := bkeep hA c7
    replace c8 := bkeep hA c8
    replace c9 := bkeep hA c9
    replace v0 := bfree hA g0 v0
    replace v1 := bfree hA g1 v1
    replace v2 := bfree hA g2 v2
    replace v3 := bfree hA g3 v3
    replace v4 := bfree hA g4 v4
    replace v5 := bfree hA g5 v5
    replace v6 := bfree hA g6 v6
    replace v7 := bfree hA g7 v7
    replace v8 := bfree hA g8 v8
    replace v9 := bfree hA g9 v9
    replace g0 := bkeep hA g0
    replace g1 := bkeep hA g1
    replace g2 := bkeep hA g2
    replace g3 := bkeep hA g3
    replace g4 := bkeep hA g4
    replace g5 := bkeep hA g5
    replace g6 := bkeep hA g6
    replace g7 := bkeep hA g7
    replace g8 := bkeep hA g8
    replace g9 := bkeep hA g9
    replace HB := bt HB hA
    clear hA
    have hn2 := lt_ne g0
    have hn3 := fun h => hn2 (Eq.symm h)
    go_wp2_with (first | (go_at_call 31; (with_reducible refine (C.out _).mono ?_); rintro e' W6 ⟨rfl, hA⟩; replace c0 := bkeep hA c0; replace c1 := bkeep hA c1; replace c2 := bkeep hA c2; replace c3 := bkeep hA c3; replace c4 := bkeep hA c4; replace c5 := bkeep hA c5; replace c6 := bkeep hA c6; replace c7 := bkeep hA c7; replace c8 := bkeep hA c8; replace c9 := bkeep hA c9; replace v0 := bfree hA g0 v0; replace v1 := bfree hA g1 v1; replace v2 := bfree hA g2 v2; replace v3 := bfree hA g3 v3; replace v4 := bfree hA g4 v4; replace v5 := bfree hA g5 v5; replace v6 := bfree hA g6 v6; replace v7 := bfree hA g7 v7; replace v8 := bfree hA g8 v8; replace v9 := bfree hA g9 v9; replace g0 := bkeep hA g0; replace g1 := bkeep hA g1; replace g2 := bkeep hA g2; replace g3 := bkeep hA g3; replace g4 := bkeep hA g4; replace g5 := bkeep hA g5; replace g6 := bkeep hA g6; replace g7 := bkeep hA g7; replace g8 := bkeep hA g8; replace g9 := bkeep hA g9; replace HB := bt HB hA; clear hA hn2 hn3; have hn2 := lt_ne g0; have hn3 := fun h => hn2 (Eq.symm h)) | (go_at_call 32; (with_reducible refine (C.out _).mono ?_); rintro e' W6 ⟨rfl, hA⟩; replace c0 := bkeep hA c0; replace c1 := bkeep hA c1; replace c2 := bkeep hA c2; replace c3 := bkeep hA c3; replace c4 := bkeep hA c4; replace c5 := bkeep hA c5; replace c6 := bkeep hA c6; replace c7 := bkeep hA c7; replace c8 := bkeep hA c8; replace c9 := bkeep hA c9; replace v0 := bfree hA g0 v0; replace v1 := bfree hA g1 v1; replace v2 := bfree hA g2 v2; replace v3 := bfree hA g3 v3; replace v4 := bfree hA g4 v4; replace v5 := bfree hA g5 v5; replace v6 := bfree hA g6 v6; replace v7 := bfree hA g7 v7; replace v8 := bfree hA g8 v8; replace v9 := bfree hA g9 v9; replace g0 := bkeep hA g0; replace g1 := bkeep hA g1; replace g2 := bkeep hA g2; replace g3 := bkeep hA g3; replace g4 := bkeep hA g4; replace g5 := bkeep hA g5; replace g6 := bkeep hA g6; replace g7 := bkeep hA g7; replace g8 := bkeep hA g8; replace g9 := bkeep hA g9; replace HB := bt HB hA; clear hA hn2 hn3; have hA := (Below.refl W6.heap.size W6).alloc (Nat.le_refl _) (Obj.cells #[.int .i64 x, .int .i64 y] 23); replace c0 := bkeep hA c0; replace c1 := bkeep hA c1; replace c2 := bkeep hA c2; replace c3 := bkeep hA c3; replace c4 := bkeep hA c4; replace c5 := bkeep hA c5; replace c6 := bkeep hA c6; replace c7 := bkeep hA c7; replace c8 := bkeep hA c8; replace c9 := bkeep hA c9; replace v0 := bfree hA g0 v0; replace v1 := bfree hA g1 v1; replace v2 := bfree hA g2 v2; replace v3 := bfree hA g3 v3; replace v4 := bfree hA g4 v4; replace v5 := bfree hA g5 v5; replace v6 := bfree hA g6 v6; replace v7 := bfree hA g7 v7; replace v8 := bfree hA g8 v8; replace v9 := bfree hA g9 v9; replace g0 := bkeep hA g0; replace g1 := bkeep hA g1; replace g2 := bkeep hA g2; replace g3 := bkeep hA g3; replace g4 := bkeep hA g4; replace g5 := bkeep hA g5; replace g6 := bkeep hA g6; replace g7 := bkeep hA g7; replace g8 := bkeep hA g8; replace g9 := bkeep hA g9; replace HB := bt HB hA; clear hA; have hn2 := lt_ne g0; have hn3 := fun h => hn2 (Eq.symm h)))
    exact bodyPost_ret (v := .tuple #[(st0).v, .int .i64 (E2)]) (by simp [results, Try.results16, go_sem, g0, g1, g2, g3, g4, g5, g6, g7, g8, g9, onS, st0, hn2, hn3]) rfl ⟨by rw [HF.out.1, HF.out.2], by repeat (first | with_reducible exact HB | with_reducible refine Below.drew ?_ | with_reducible refine Below.setCell ?_ (by first | (simp; done) | (simp; omega)) _ | with_reducible refine Below.alloc ?_ (by first | (simp; done) | (simp; omega)) _)⟩
end Go.Proofs.Ytingeahkndingaa
