/-
  Package state (chapter 23): what is wrong with a state.
-/
import Derived.Test.YtemfdmbjlmiopaaVector2
import Derived.Test.YtemfdmbjlmiopaaBytes
namespace Go.Proofs.Ytemfdmbjlmiopaa
open Go.RowKit
set_option linter.unusedVariables false
set_option linter.unusedSimpArgs false
/-- a version: how far, the bytes -/
structure Ve where
  p : Int
  q : Int
  d : ByteArray
/-- a state -/
structure St where
  k : Int
  a : Int
  b : Int
  d : ByteArray
  x : Ve
  y : Ve
abbrev VE (p q : Int) (e : ByteArray) : Value := .agg #[.int .i64 p, .int .i64 q, .string e]
/-- a state, as a value: its ten cells -/
abbrev SS (k a b : Int) (d : ByteArray) (p q : Int) (e : ByteArray) (r s : Int) (f : ByteArray) : Value := .agg #[.int .i64 k, .int .i64 a, .int .i64 b, .string d, .int .i64 p, .int .i64 q, .string e, .int .i64 r, .int .i64 s, .string f]
abbrev PP (k p q : Int) (e : ByteArray) (r s : Int) (f : ByteArray) : Value := .agg #[.int .i64 k, .int .i64 p, .int .i64 q, .string e, .int .i64 r, .int .i64 s, .string f]
abbrev Ve.v (x : Ve) : Value := VE x.p x.q x.d
abbrev St.v (s : St) : Value := SS s.k s.a s.b s.d s.x.p s.x.q s.x.d s.y.p s.y.q s.y.d
def Ve.none (x : Ve) : Bool := x.p == 0 && (x.q == 0 && x.d.toList.isEmpty)
def pairE (x y : Ve) : Int := if rightB x.p x.q = false ∨ rightB y.p y.q = false then 3 else if x.d.size ≠ 128 ∨ y.d.size ≠ 128 then 12 else if cmpZ x.p x.q y.p y.q ≠ 3 ∨ x.p < y.p then 10 else 0
def plainE (s : St) : Int := if rightB s.a s.b = false then 3 else if s.d.size ≠ 128 then 12 else if s.x.none = false ∨ s.y.none = false then 4 else 0
def clashE (s : St) : Int := if pairE s.x s.y = 0 then (if s.a = s.x.p ∧ s.b = s.y.q ∧ s.d.size = 0 then 0 else 4) else pairE s.x s.y
def chkE (s : St) : Int := if s.k = 0 then plainE s else if s.k = 1 then clashE s else 7
theorem veq_none (p q : Int) (e : ByteArray) (W : World) : (binOp .neq 25 (VE p q e) (VE 0 0 ⟨#[]⟩)).run Try.prog W = .ok (.bool (!(Ve.none ⟨p, q, e⟩))) W := by
  unfold Ve.none
  simp [go_sem]
  by_cases h1 : p = 0
  · by_cases h2 : q = 0
    · by_cases h3 : e.toList = []
      · simp [h1, h2, h3]
      · simp [h1, h2, h3]
    · simp [h1, h2]
  · simp [h1]
theorem held10 {w : World} {k a b p q r s : Int} {d e f : ByteArray} (T : TypeId) : let W := w.alloc (.cells #[.int .i64 k, .int .i64 a, .int .i64 b, .string d, .int .i64 p, .int .i64 q, .string e, .int .i64 r, .int .i64 s, .string f] T)
    W.cell? ⟨w.heap.size, 0, none⟩ = some (.int .i64 k) ∧ W.cell? ⟨w.heap.size, 1, none⟩ = some (.int .i64 a) ∧ W.cell? ⟨w.heap.size, 2, none⟩ = some (.int .i64 b) ∧ W.cell? ⟨w.heap.size, 3, none⟩ = some (.string d) ∧ W.cell? ⟨w.heap.size, 4, none⟩ = some (.int .i64 p) ∧ W.cell? ⟨w.heap.size, 5, none⟩ = some (.int .i64 q) ∧ W.cell? ⟨w.heap.size, 6, none⟩ = some (.string e) ∧ W.cell? ⟨w.heap.size, 7, none⟩ = some (.int .i64 r) ∧ W.cell? ⟨w.heap.size, 8, none⟩ = some (.int .i64 s) ∧ W.cell? ⟨w.heap.size, 9, none⟩ = some (.string f) := by
  intro W
  refine ⟨?_, ?_, ?_, ?_, ?_, ?_, ?_, ?_, ?_, ?_⟩ <;> simp [W, go_sem]
theorem held3 {w : World} {p q : Int} {e : ByteArray} (T : TypeId) : let W := w.alloc (.cells #[.int .i64 p, .int .i64 q, .string e] T)
    W.cell? ⟨w.heap.size, 0, none⟩ = some (.int .i64 p) ∧ W.cell? ⟨w.heap.size, 1, none⟩ = some (.int .i64 q) ∧ W.cell? ⟨w.heap.size, 2, none⟩ = some (.string e) := by
  intro W
  refine ⟨?_, ?_, ?_⟩ <;> simp [W, go_sem]
theorem size_ne {d : ByteArray} {n : Nat} (h : d.size ≠ n) : ((d.size : Int) != (n : Int)) = true := by rw [bne_iff_ne]; omega
theorem size_eq {d : ByteArray} {n : Nat} (h : d.size = n) : ((d.size : Int) != (n : Int)) = false := by rw [bne_eq_false_iff_eq]; omega
set_option maxHeartbeats 3200000 in
theorem scheck_any (k a b : Int) (d : ByteArray) (p q : Int) (e : ByteArray) (r s : Int) (f : ByteArray) (w : World) : Calls Try.prog 94 #[SS k a b d p q e r s f] w fun e' w' => e' = .returned (.int .i64 (plainE ⟨k, a, b, d, ⟨p, q, e⟩, ⟨r, s, f⟩⟩)) ∧ Below w.heap.size w w' := by
  cases h1 : rightB a b
  · have HF : Hid (plainE ⟨k, a, b, d, ⟨p, q, e⟩, ⟨r, s, f⟩⟩ = 3) := by show _ = _; unfold plainE; rw [if_pos h1]
    obtain ⟨c0, c1, c2, c3, c4, c5, c6, c7, c8, c9⟩ := held10 (w := w) (k := k) (a := a) (b := b) (d := d) (p := p) (q := q) (e := e) (r := r) (s := s) (f := f) 102
    have hA1 : Below w.heap.size w (w.alloc (.cells #[.int .i64 k, .int .i64 a, .int .i64 b, .string d, .int .i64 p, .int .i64 q, .string e, .int .i64 r, .int .i64 s, .string f] 102)) := (Below.refl _ _).alloc (Nat.le_refl _) _
    have hz1 : (w.alloc (.cells #[.int .i64 k, .int .i64 a, .int .i64 b, .string d, .int .i64 p, .int .i64 q, .string e, .int .i64 r, .int .i64 s, .string f] 102)).heap.size = w.heap.size + 1 := by simp
    go_enter Try.func94, Try.ntmps94
    go_wp2_with fail
    generalize w.alloc (.cells #[.int .i64 k, .int .i64 a, .int .i64 b, .string d, .int .i64 p, .int .i64 q, .string e, .int .i64 r, .int .i64 s, .string f] 102) = W1 at *
    obtain ⟨n0, n1, n2⟩ := held3 (w := W1) (p := 0) (q := 0) (e := ⟨#[]⟩) 25
    rw [hz1] at n0 n1 n2
    have hA2 : Below W1.heap.size W1 (W1.alloc (.cells #[.int .i64 0, .int .i64 0, .string ⟨#[]⟩] 25)) := (Below.refl _ _).alloc (Nat.le_refl _) _
    replace c0 := bkeep hA2 c0
    replace c1 := bkeep hA2 c1
    replace c2 := bkeep hA2 c2
    replace c3 := bkeep hA2 c3
    replace c4 := bkeep hA2 c4
    replace c5 := bkeep hA2 c5
    replace c6 := bkeep hA2 c6
    replace c7 := bkeep hA2 c7
    replace c8 := bkeep hA2 c8
    replace c9 := bkeep hA2 c9
    have HB := bt hA1 hA2
    clear hA1 hA2
    generalize W1.alloc (.cells #[.int .i64 0, .int .i64 0, .string ⟨#[]⟩] 25) = W2 at *
    go_wp2_with (go_at_call 30; (with_reducible refine (right_any _ _ _).mono ?_); rintro e' w5 ⟨rfl, hb5⟩; rw [h1]; replace c0 := bkeep hb5 c0; replace c1 := bkeep hb5 c1; replace c2 := bkeep hb5 c2; replace c3 := bkeep hb5 c3; replace c4 := bkeep hb5 c4; replace c5 := bkeep hb5 c5; replace c6 := bkeep hb5 c6; replace c7 := bkeep hb5 c7; replace c8 := bkeep hb5 c8; replace c9 := bkeep hb5 c9; replace n0 := bkeep hb5 n0; replace n1 := bkeep hb5 n1; replace n2 := bkeep hb5 n2; replace HB := bt HB hb5; clear hb5)
    go_ret
    exact ⟨congrArg (fun x => Ending.returned (.int .i64 x)) HF.out.symm, HB⟩
  by_cases hd : d.size = 128
  · have hdz := size_eq hd
    cases hx : Ve.none ⟨p, q, e⟩
    · have HF : Hid (plainE ⟨k, a, b, d, ⟨p, q, e⟩, ⟨r, s, f⟩⟩ = 4) := by show _ = _; unfold plainE; rw [if_neg (by rw [h1]; decide), if_neg (fun h => h hd), if_pos (.inl hx)]
      have e1 := fun W => veq_none p q e W
      rw [hx] at e1
      obtain ⟨c0, c1, c2, c3, c4, c5, c6, c7, c8, c9⟩ := held10 (w := w) (k := k) (a := a) (b := b) (d := d) (p := p) (q := q) (e := e) (r := r) (s := s) (f := f) 102
      have hA1 : Below w.heap.size w (w.alloc (.cells #[.int .i64 k, .int .i64 a, .int .i64 b, .string d, .int .i64 p, .int .i64 q, .string e, .int .i64 r, .int .i64 s, .string f] 102)) := (Below.refl _ _).alloc (Nat.le_refl _) _
      have hz1 : (w.alloc (.cells #[.int .i64 k, .int .i64 a, .int .i64 b, .string d, .int .i64 p, .int .i64 q, .string e, .int .i64 r, .int .i64 s, .string f] 102)).heap.size = w.heap.size + 1 := by simp
      go_enter Try.func94, Try.ntmps94
      go_wp2_with fail
      generalize w.alloc (.cells #[.int .i64 k, .int .i64 a, .int .i64 b, .string d, .int .i64 p, .int .i64 q, .string e, .int .i64 r, .int .i64 s, .string f] 102) = W1 at *
      obtain ⟨n0, n1, n2⟩ := held3 (w := W1) (p := 0) (q := 0) (e := ⟨#[]⟩) 25
      rw [hz1] at n0 n1 n2
      have hA2 : Below W1.heap.size W1 (W1.alloc (.cells #[.int .i64 0, .int .i64 0, .string ⟨#[]⟩] 25)) := (Below.refl _ _).alloc (Nat.le_refl _) _
      replace c0 := bkeep hA2 c0
      replace c1 := bkeep hA2 c1
      replace c2 := bkeep hA2 c2
      replace c3 := bkeep hA2 c3
      replace c4 := bkeep hA2 c4
      replace c5 := bkeep hA2 c5
      replace c6 := bkeep hA2 c6
      replace c7 := bkeep hA2 c7
      replace c8 := bkeep hA2 c8
      replace c9 := bkeep hA2 c9
      have HB := bt hA1 hA2
      clear hA1 hA2
      generalize W1.alloc (.cells #[.int .i64 0, .int .i64 0, .string ⟨#[]⟩] 25) = W2 at *
      go_wp2_with (go_at_call 30; (with_reducible refine (right_any _ _ _).mono ?_); rintro e' w5 ⟨rfl, hb5⟩; rw [h1]; replace c0 := bkeep hb5 c0; replace c1 := bkeep hb5 c1; replace c2 := bkeep hb5 c2; replace c3 := bkeep hb5 c3; replace c4 := bkeep hb5 c4; replace c5 := bkeep hb5 c5; replace c6 := bkeep hb5 c6; replace c7 := bkeep hb5 c7; replace c8 := bkeep hb5 c8; replace c9 := bkeep hb5 c9; replace n0 := bkeep hb5 n0; replace n1 := bkeep hb5 n1; replace n2 := bkeep hb5 n2; replace HB := bt HB hb5; clear hb5)
      go_ret
      exact ⟨congrArg (fun x => Ending.returned (.int .i64 x)) HF.out.symm, HB⟩
    · cases hy : Ve.none ⟨r, s, f⟩
      · have HF : Hid (plainE ⟨k, a, b, d, ⟨p, q, e⟩, ⟨r, s, f⟩⟩ = 4) := by show _ = _; unfold plainE; rw [if_neg (by rw [h1]; decide), if_neg (fun h => h hd), if_pos (.inr hy)]
        have e1 := fun W => veq_none p q e W
        have e2 := fun W => veq_none r s f W
        rw [hx] at e1
        rw [hy] at e2
        obtain ⟨c0, c1, c2, c3, c4, c5, c6, c7, c8, c9⟩ := held10 (w := w) (k := k) (a := a) (b := b) (d := d) (p := p) (q := q) (e := e) (r := r) (s := s) (f := f) 102
        have hA1 : Below w.heap.size w (w.alloc (.cells #[.int .i64 k, .int .i64 a, .int .i64 b, .string d, .int .i64 p, .int .i64 q, .string e, .int .i64 r, .int .i64 s, .string f] 102)) := (Below.refl _ _).alloc (Nat.le_refl _) _
        have hz1 : (w.alloc (.cells #[.int .i64 k, .int .i64 a, .int .i64 b, .string d, .int .i64 p, .int .i64 q, .string e, .int .i64 r, .int .i64 s, .string f] 102)).heap.size = w.heap.size + 1 := by simp
        go_enter Try.func94, Try.ntmps94
        go_wp2_with fail
        generalize w.alloc (.cells #[.int .i64 k, .int .i64 a, .int .i64 b, .string d, .int .i64 p, .int .i64 q, .string e, .int .i64 r, .int .i64 s, .string f] 102) = W1 at *
        obtain ⟨n0, n1, n2⟩ := held3 (w := W1) (p := 0) (q := 0) (e := ⟨#[]⟩) 25
        rw [hz1] at n0 n1 n2
        have hA2 : Below W1.heap.size W1 (W1.alloc (.cells #[.int .i64 0, .int .i64 0, .string ⟨#[]⟩] 25)) := (Below.refl _ _).alloc (Nat.le_refl _) _
        replace c0 := bkeep hA2 c0
        replace c1 := bkeep hA2 c1
        replace c2 := bkeep hA2 c2
        replace c3 := bkeep hA2 c3
        replace c4 := bkeep hA2 c4
        replace c5 := bkeep hA2 c5
        replace c6 := bkeep hA2 c6
        replace c7 := bkeep hA2 c7
        replace c8 := bkeep hA2 c8
        replace c9 := bkeep hA2 c9
        have HB := bt hA1 hA2
        clear hA1 hA2
        generalize W1.alloc (.cells #[.int .i64 0, .int .i64 0, .string ⟨#[]⟩] 25) = W2 at *
        go_wp2_with (go_at_call 30; (with_reducible refine (right_any _ _ _).mono ?_); rintro e' w5 ⟨rfl, hb5⟩; rw [h1]; replace c0 := bkeep hb5 c0; replace c1 := bkeep hb5 c1; replace c2 := bkeep hb5 c2; replace c3 := bkeep hb5 c3; replace c4 := bkeep hb5 c4; replace c5 := bkeep hb5 c5; replace c6 := bkeep hb5 c6; replace c7 := bkeep hb5 c7; replace c8 := bkeep hb5 c8; replace c9 := bkeep hb5 c9; replace n0 := bkeep hb5 n0; replace n1 := bkeep hb5 n1; replace n2 := bkeep hb5 n2; replace HB := bt HB hb5; clear hb5)
        go_ret
        exact ⟨congrArg (fun x => Ending.returned (.int .i64 x)) HF.out.symm, HB⟩
      · have HF : Hid (plainE ⟨k, a, b, d, ⟨p, q, e⟩, ⟨r, s, f⟩⟩ = 0) := by show _ = _; unfold plainE; rw [if_neg (by rw [h1]; decide), if_neg (fun h => h hd), if_neg (by rw [hx, hy]; decide)]
        have e1 := fun W => veq_none p q e W
        have e2 := fun W => veq_none r s f W
        rw [hx] at e1
        rw [hy] at e2
        obtain ⟨c0, c1, c2, c3, c4, c5, c6, c7, c8, c9⟩ := held10 (w := w) (k := k) (a := a) (b := b) (d := d) (p := p) (q := q) (e := e) (r := r) (s := s) (f := f) 102
        have hA1 : Below w.heap.size w (w.alloc (.cells #[.int .i64 k, .int .i64 a, .int .i64 b, .string d, .int .i64 p, .int .i64 q, .string e, .int .i64 r, .int .i64 s, .string f] 102)) := (Below.refl _ _).alloc (Nat.le_refl _) _
        have hz1 : (w.alloc (.cells #[.int .i64 k, .int .i64 a, .int .i64 b, .string d, .int .i64 p, .int .i64 q, .string e, .int .i64 r, .int .i64 s, .string f] 102)).heap.size = w.heap.size + 1 := by simp
        go_enter Try.func94, Try.ntmps94
        go_wp2_with fail
        generalize w.alloc (.cells #[.int .i64 k, .int .i64 a, .int .i64 b, .string d, .int .i64 p, .int .i64 q, .string e, .int .i64 r, .int .i64 s, .string f] 102) = W1 at *
        obtain ⟨n0, n1, n2⟩ := held3 (w := W1) (p := 0) (q := 0) (e := ⟨#[]⟩) 25
        rw [hz1] at n0 n1 n2
        have hA2 : Below W1.heap.size W1 (W1.alloc (.cells #[.int .i64 0, .int .i64 0, .string ⟨#[]⟩] 25)) := (Below.refl _ _).alloc (Nat.le_refl _) _
        replace c0 := bkeep hA2 c0
        replace c1 := bkeep hA2 c1
        replace c2 := bkeep hA2 c2
        replace c3 := bkeep hA2 c3
        replace c4 := bkeep hA2 c4
        replace c5 := bkeep hA2 c5
        replace c6 := bkeep hA2 c6
        replace c7 := bkeep hA2 c7
        replace c8 := bkeep hA2 c8
        replace c9 := bkeep hA2 c9
        have HB := bt hA1 hA2
        clear hA1 hA2
        generalize W1.alloc (.cells #[.int .i64 0, .int .i64 0, .string ⟨#[]⟩] 25) = W2 at *
        go_wp2_with (go_at_call 30; (with_reducible refine (right_any _ _ _).mono ?_); rintro e' w5 ⟨rfl, hb5⟩; rw [h1]; replace c0 := bkeep hb5 c0; replace c1 := bkeep hb5 c1; replace c2 := bkeep hb5 c2; replace c3 := bkeep hb5 c3; replace c4 := bkeep hb5 c4; replace c5 := bkeep hb5 c5; replace c6 := bkeep hb5 c6; replace c7 := bkeep hb5 c7; replace c8 := bkeep hb5 c8; replace c9 := bkeep hb5 c9; replace n0 := bkeep hb5 n0; replace n1 := bkeep hb5 n1; replace n2 := bkeep hb5 n2; replace HB := bt HB hb5; clear hb5)
        go_ret
        exact ⟨congrArg (fun x => Ending.returned (.int .i64 x)) HF.out.symm, HB⟩
  · have HF : Hid (plainE ⟨k, a, b, d, ⟨p, q, e⟩, ⟨r, s, f⟩⟩ = 12) := by show _ = _; unfold plainE; rw [if_neg (by rw [h1]; decide), if_pos hd]
    have hdz := size_ne hd
    obtain ⟨c0, c1, c2, c3, c4, c5, c6, c7, c8, c9⟩ := held10 (w := w) (k := k) (a := a) (b := b) (d := d) (p := p) (q := q) (e := e) (r := r) (s := s) (f := f) 102
    have hA1 : Below w.heap.size w (w.alloc (.cells #[.int .i64 k, .int .i64 a, .int .i64 b, .string d, .int .i64 p, .int .i64 q, .string e, .int .i64 r, .int .i64 s, .string f] 102)) := (Below.refl _ _).alloc (Nat.le_refl _) _
    have hz1 : (w.alloc (.cells #[.int .i64 k, .int .i64 a, .int .i64 b, .string d, .int .i64 p, .int .i64 q, .string e, .int .i64 r, .int .i64 s, .string f] 102)).heap.size = w.heap.size + 1 := by simp
    go_enter Try.func94, Try.ntmps94
    go_wp2_with fail
    generalize w.alloc (.cells #[.int .i64 k, .int .i64 a, .int .i64 b, .string d, .int .i64 p, .int .i64 q, .string e, .int .i64 r, .int .i64 s, .string f] 102) = W1 at *
    obtain ⟨n0, n1, n2⟩ := held3 (w := W1) (p := 0) (q := 0) (e := ⟨#[]⟩) 25
    rw [hz1] at n0 n1 n2
    have hA2 : Below W1.heap.size W1 (W1.alloc (.cells #[.int .i64 0, .int .i64 0, .string ⟨#[]⟩] 25)) := (Below.refl _ _).alloc (Nat.le_refl _) _
    replace c0 := bkeep hA2 c0
    replace c1 := bkeep hA2 c1
    replace c2 := bkeep hA2 c2
    replace c3 := bkeep hA2 c3
    replace c4 := bkeep hA2 c4
    replace c5 := bkeep hA2 c5
    replace c6 := bkeep hA2 c6
    replace c7 := bkeep hA2 c7
    replace c8 := bkeep hA2 c8
    replace c9 := bkeep hA2 c9
    have HB := bt hA1 hA2
    clear hA1 hA2
    generalize W1.alloc (.cells #[.int .i64 0, .int .i64 0, .string ⟨#[]⟩] 25) = W2 at *
    go_wp2_with (go_at_call 30; (with_reducible refine (right_any _ _ _).mono ?_); rintro e' w5 ⟨rfl, hb5⟩; rw [h1]; replace c0 := bkeep hb5 c0; replace c1 := bkeep hb5 c1; replace c2 := bkeep hb5 c2; replace c3 := bkeep hb5 c3; replace c4 := bkeep hb5 c4; replace c5 := bkeep hb5 c5; replace c6 := bkeep hb5 c6; replace c7 := bkeep hb5 c7; replace c8 := bkeep hb5 c8; replace c9 := bkeep hb5 c9; replace n0 := bkeep hb5 n0; replace n1 := bkeep hb5 n1; replace n2 := bkeep hb5 n2; replace HB := bt HB hb5; clear hb5)
    go_ret
    exact ⟨congrArg (fun x => Ending.returned (.int .i64 x)) HF.out.symm, HB⟩
theorem held7 {w : World} {k p q r s : Int} {e f : ByteArray} (T : TypeId) : let W := w.alloc (.cells #[.int .i64 k, .int .i64 p, .int .i64 q, .string e, .int .i64 r, .int .i64 s, .string f] T)
    W.cell? ⟨w.heap.size, 0, none⟩ = some (.int .i64 k) ∧ W.cell? ⟨w.heap.size, 1, none⟩ = some (.int .i64 p) ∧ W.cell? ⟨w.heap.size, 2, none⟩ = some (.int .i64 q) ∧ W.cell? ⟨w.heap.size, 3, none⟩ = some (.string e) ∧ W.cell? ⟨w.heap.size, 4, none⟩ = some (.int .i64 r) ∧ W.cell? ⟨w.heap.size, 5, none⟩ = some (.int .i64 s) ∧ W.cell? ⟨w.heap.size, 6, none⟩ = some (.string f) := by
  intro W
  refine ⟨?_, ?_, ?_, ?_, ?_, ?_, ?_⟩ <;> simp [W, go_sem]
theorem cmp_vals (p q r s : Int) (h : cmpZ p q r s = 3) : p ≠ r := by
  rintro rfl
  unfold cmpZ coversB at h
  by_cases h1 : q ≤ s
  · by_cases h2 : s ≤ q
    · rw [if_pos (by simp [h2]), if_pos (by simp [h1])] at h; cases h
    · rw [if_neg (by simp [h2]), if_pos (by simp [h1])] at h; cases h
  · rw [if_pos (by simp; omega), if_neg (by simp [h1])] at h; cases h
set_option maxHeartbeats 6400000 in
theorem slotCheck_any (p q : Int) (e : ByteArray) (r s : Int) (f : ByteArray) (w : World) : Calls Try.prog 96 #[PP 0 p q e r s f] w fun e' w' => e' = .returned (.int .i64 (pairE ⟨p, q, e⟩ ⟨r, s, f⟩)) ∧ Below w.heap.size w w' := by
  have HP : pairE ⟨p, q, e⟩ ⟨r, s, f⟩ = if rightB p q = false ∨ rightB r s = false then 3 else if e.size ≠ 128 ∨ f.size ≠ 128 then 12 else if cmpZ p q r s ≠ 3 ∨ p < r then 10 else 0 := rfl
  obtain ⟨z, hc⟩ : ∃ z, cmpZ p q r s = z := ⟨_, rfl⟩
  have hcz := cmp_vals p q r s
  cases h1 : rightB p q
  · have HF : Hid (pairE ⟨p, q, e⟩ ⟨r, s, f⟩ = 3) := by rw [HP]; exact if_pos (.inl h1)
    clear HP hcz
    obtain ⟨c0, c1, c2, c3, c4, c5, c6⟩ := held7 (w := w) (k := 0) (p := p) (q := q) (e := e) (r := r) (s := s) (f := f) 91
    have HB : Below w.heap.size w (w.alloc (.cells #[.int .i64 0, .int .i64 p, .int .i64 q, .string e, .int .i64 r, .int .i64 s, .string f] 91)) := (Below.refl _ _).alloc (Nat.le_refl _) _
    go_enter Try.func96, Try.ntmps96
    go_wp2_with fail
    generalize w.alloc (.cells #[.int .i64 0, .int .i64 p, .int .i64 q, .string e, .int .i64 r, .int .i64 s, .string f] 91) = W1 at *
    go_wp2_with (first | (go_at_call 30; (with_reducible refine (right_any p q _).mono ?_); rintro e' w5 ⟨rfl, hb5⟩; rw [h1]; replace c0 := bkeep hb5 c0; replace c1 := bkeep hb5 c1; replace c2 := bkeep hb5 c2; replace c3 := bkeep hb5 c3; replace c4 := bkeep hb5 c4; replace c5 := bkeep hb5 c5; replace c6 := bkeep hb5 c6; replace HB := bt HB hb5; clear hb5) | (go_at_call 30; (with_reducible refine (right_any r s _).mono ?_); rintro e' w5 ⟨rfl, hb5⟩; rw [h2]; replace c0 := bkeep hb5 c0; replace c1 := bkeep hb5 c1; replace c2 := bkeep hb5 c2; replace c3 := bkeep hb5 c3; replace c4 := bkeep hb5 c4; replace c5 := bkeep hb5 c5; replace c6 := bkeep hb5 c6; replace HB := bt HB hb5; clear hb5) | (go_at_call 97; (with_reducible refine (compare_any _ _ _ _ _).mono ?_); rintro e' w5 ⟨rfl, hb5⟩; rw [hc]; replace c0 := bkeep hb5 c0; replace c1 := bkeep hb5 c1; replace c2 := bkeep hb5 c2; replace c3 := bkeep hb5 c3; replace c4 := bkeep hb5 c4; replace c5 := bkeep hb5 c5; replace c6 := bkeep hb5 c6; replace HB := bt HB hb5; clear hb5))
    go_ret
    exact ⟨congrArg (fun x => Ending.returned (.int .i64 x)) HF.out.symm, HB⟩
  cases h2 : rightB r s
  · have HF : Hid (pairE ⟨p, q, e⟩ ⟨r, s, f⟩ = 3) := by rw [HP]; exact if_pos (.inr h2)
    clear HP hcz
    obtain ⟨c0, c1, c2, c3, c4, c5, c6⟩ := held7 (w := w) (k := 0) (p := p) (q := q) (e := e) (r := r) (s := s) (f := f) 91
    have HB : Below w.heap.size w (w.alloc (.cells #[.int .i64 0, .int .i64 p, .int .i64 q, .string e, .int .i64 r, .int .i64 s, .string f] 91)) := (Below.refl _ _).alloc (Nat.le_refl _) _
    go_enter Try.func96, Try.ntmps96
    go_wp2_with fail
    generalize w.alloc (.cells #[.int .i64 0, .int .i64 p, .int .i64 q, .string e, .int .i64 r, .int .i64 s, .string f] 91) = W1 at *
    go_wp2_with (first | (go_at_call 30; (with_reducible refine (right_any p q _).mono ?_); rintro e' w5 ⟨rfl, hb5⟩; rw [h1]; replace c0 := bkeep hb5 c0; replace c1 := bkeep hb5 c1; replace c2 := bkeep hb5 c2; replace c3 := bkeep hb5 c3; replace c4 := bkeep hb5 c4; replace c5 := bkeep hb5 c5; replace c6 := bkeep hb5 c6; replace HB := bt HB hb5; clear hb5) | (go_at_call 30; (with_reducible refine (right_any r s _).mono ?_); rintro e' w5 ⟨rfl, hb5⟩; rw [h2]; replace c0 := bkeep hb5 c0; replace c1 := bkeep hb5 c1; replace c2 := bkeep hb5 c2; replace c3 := bkeep hb5 c3; replace c4 := bkeep hb5 c4; replace c5 := bkeep hb5 c5; replace c6 := bkeep hb5 c6; replace HB := bt HB hb5; clear hb5) | (go_at_call 97; (with_reducible refine (compare_any _ _ _ _ _).mono ?_); rintro e' w5 ⟨rfl, hb5⟩; rw [hc]; replace c0 := bkeep hb5 c0; replace c1 := bkeep hb5 c1; replace c2 := bkeep hb5 c2; replace c3 := bkeep hb5 c3; replace c4 := bkeep hb5 c4; replace c5 := bkeep hb5 c5; replace c6 := bkeep hb5 c6; replace HB := bt HB hb5; clear hb5))
    go_ret
    exact ⟨congrArg (fun x => Ending.returned (.int .i64 x)) HF.out.symm, HB⟩
  rw [if_neg (by rw [h1, h2]; decide)] at HP
  by_cases he : e.size = 128
  case neg =>
    have HF : Hid (pairE ⟨p, q, e⟩ ⟨r, s, f⟩ = 12) := by rw [HP]; exact if_pos (.inl he)
    have hez := size_ne he
    clear HP hcz
    obtain ⟨c0, c1, c2, c3, c4, c5, c6⟩ := held7 (w := w) (k := 0) (p := p) (q := q) (e := e) (r := r) (s := s) (f := f) 91
    have HB : Below w.heap.size w (w.alloc (.cells #[.int .i64 0, .int .i64 p, .int .i64 q, .string e, .int .i64 r, .int .i64 s, .string f] 91)) := (Below.refl _ _).alloc (Nat.le_refl _) _
    go_enter Try.func96, Try.ntmps96
    go_wp2_with fail
    generalize w.alloc (.cells #[.int .i64 0, .int .i64 p, .int .i64 q, .string e, .int .i64 r, .int .i64 s, .string f] 91) = W1 at *
    go_wp2_with (first | (go_at_call 30; (with_reducible refine (right_any p q _).mono ?_); rintro e' w5 ⟨rfl, hb5⟩; rw [h1]; replace c0 := bkeep hb5 c0; replace c1 := bkeep hb5 c1; replace c2 := bkeep hb5 c2; replace c3 := bkeep hb5 c3; replace c4 := bkeep hb5 c4; replace c5 := bkeep hb5 c5; replace c6 := bkeep hb5 c6; replace HB := bt HB hb5; clear hb5) | (go_at_call 30; (with_reducible refine (right_any r s _).mono ?_); rintro e' w5 ⟨rfl, hb5⟩; rw [h2]; replace c0 := bkeep hb5 c0; replace c1 := bkeep hb5 c1; replace c2 := bkeep hb5 c2; replace c3 := bkeep hb5 c3; replace c4 := bkeep hb5 c4; replace c5 := bkeep hb5 c5; replace c6 := bkeep hb5 c6; replace HB := bt HB hb5; clear hb5) | (go_at_call 97; (with_reducible refine (compare_any _ _ _ _ _).mono ?_); rintro e' w5 ⟨rfl, hb5⟩; rw [hc]; replace c0 := bkeep hb5 c0; replace c1 := bkeep hb5 c1; replace c2 := bkeep hb5 c2; replace c3 := bkeep hb5 c3; replace c4 := bkeep hb5 c4; replace c5 := bkeep hb5 c5; replace c6 := bkeep hb5 c6; replace HB := bt HB hb5; clear hb5))
    go_ret
    exact ⟨congrArg (fun x => Ending.returned (.int .i64 x)) HF.out.symm, HB⟩
  by_cases hf : f.size = 128
  case neg =>
    have HF : Hid (pairE ⟨p, q, e⟩ ⟨r, s, f⟩ = 12) := by rw [HP]; exact if_pos (.inr hf)
    have hez := size_eq he
    have hfz := size_ne hf
    clear HP hcz
    obtain ⟨c0, c1, c2, c3, c4, c5, c6⟩ := held7 (w := w) (k := 0) (p := p) (q := q) (e := e) (r := r) (s := s) (f := f) 91
    have HB : Below w.heap.size w (w.alloc (.cells #[.int .i64 0, .int .i64 p, .int .i64 q, .string e, .int .i64 r, .int .i64 s, .string f] 91)) := (Below.refl _ _).alloc (Nat.le_refl _) _
    go_enter Try.func96, Try.ntmps96
    go_wp2_with fail
    generalize w.alloc (.cells #[.int .i64 0, .int .i64 p, .int .i64 q, .string e, .int .i64 r, .int .i64 s, .string f] 91) = W1 at *
    go_wp2_with (first | (go_at_call 30; (with_reducible refine (right_any p q _).mono ?_); rintro e' w5 ⟨rfl, hb5⟩; rw [h1]; replace c0 := bkeep hb5 c0; replace c1 := bkeep hb5 c1; replace c2 := bkeep hb5 c2; replace c3 := bkeep hb5 c3; replace c4 := bkeep hb5 c4; replace c5 := bkeep hb5 c5; replace c6 := bkeep hb5 c6; replace HB := bt HB hb5; clear hb5) | (go_at_call 30; (with_reducible refine (right_any r s _).mono ?_); rintro e' w5 ⟨rfl, hb5⟩; rw [h2]; replace c0 := bkeep hb5 c0; replace c1 := bkeep hb5 c1; replace c2 := bkeep hb5 c2; replace c3 := bkeep hb5 c3; replace c4 := bkeep hb5 c4; replace c5 := bkeep hb5 c5; replace c6 := bkeep hb5 c6; replace HB := bt HB hb5; clear hb5) | (go_at_call 97; (with_reducible refine (compare_any _ _ _ _ _).mono ?_); rintro e' w5 ⟨rfl, hb5⟩; rw [hc]; replace c0 := bkeep hb5 c0; replace c1 := bkeep hb5 c1; replace c2 := bkeep hb5 c2; replace c3 := bkeep hb5 c3; replace c4 := bkeep hb5 c4; replace c5 := bkeep hb5 c5; replace c6 := bkeep hb5 c6; replace HB := bt HB hb5; clear hb5))
    go_ret
    exact ⟨congrArg (fun x => Ending.returned (.int .i64 x)) HF.out.symm, HB⟩
  rw [if_neg (by rintro (h | h); exact h he; exact h hf)] at HP
  have hez := size_eq he
  have hfz := size_eq hf
  by_cases hz : z = 3
  · subst hz
    by_cases hl : p < r
    · have HF : Hid (pairE ⟨p, q, e⟩ ⟨r, s, f⟩ = 10) := by rw [HP]; exact if_pos (.inr hl)
      have hle : p ≤ r := by omega
      clear HP hcz
      obtain ⟨c0, c1, c2, c3, c4, c5, c6⟩ := held7 (w := w) (k := 0) (p := p) (q := q) (e := e) (r := r) (s := s) (f := f) 91
      have HB : Below w.heap.size w (w.alloc (.cells #[.int .i64 0, .int .i64 p, .int .i64 q, .string e, .int .i64 r, .int .i64 s, .string f] 91)) := (Below.refl _ _).alloc (Nat.le_refl _) _
      go_enter Try.func96, Try.ntmps96
      go_wp2_with fail
      generalize w.alloc (.cells #[.int .i64 0, .int .i64 p, .int .i64 q, .string e, .int .i64 r, .int .i64 s, .string f] 91) = W1 at *
      go_wp2_with (first | (go_at_call 30; (with_reducible refine (right_any p q _).mono ?_); rintro e' w5 ⟨rfl, hb5⟩; rw [h1]; replace c0 := bkeep hb5 c0; replace c1 := bkeep hb5 c1; replace c2 := bkeep hb5 c2; replace c3 := bkeep hb5 c3; replace c4 := bkeep hb5 c4; replace c5 := bkeep hb5 c5; replace c6 := bkeep hb5 c6; replace HB := bt HB hb5; clear hb5) | (go_at_call 30; (with_reducible refine (right_any r s _).mono ?_); rintro e' w5 ⟨rfl, hb5⟩; rw [h2]; replace c0 := bkeep hb5 c0; replace c1 := bkeep hb5 c1; replace c2 := bkeep hb5 c2; replace c3 := bkeep hb5 c3; replace c4 := bkeep hb5 c4; replace c5 := bkeep hb5 c5; replace c6 := bkeep hb5 c6; replace HB := bt HB hb5; clear hb5) | (go_at_call 97; (with_reducible refine (compare_any _ _ _ _ _).mono ?_); rintro e' w5 ⟨rfl, hb5⟩; rw [hc]; replace c0 := bkeep hb5 c0; replace c1 := bkeep hb5 c1; replace c2 := bkeep hb5 c2; replace c3 := bkeep hb5 c3; replace c4 := bkeep hb5 c4; replace c5 := bkeep hb5 c5; replace c6 := bkeep hb5 c6; replace HB := bt HB hb5; clear hb5))
      go_ret
      exact ⟨congrArg (fun x => Ending.returned (.int .i64 x)) HF.out.symm, HB⟩
    · have HF : Hid (pairE ⟨p, q, e⟩ ⟨r, s, f⟩ = 0) := by rw [HP]; exact if_neg (by rintro (h | h); exact h hc; exact hl h)
      have hle : ¬ p ≤ r := by have := hcz hc; omega
      clear HP hcz
      obtain ⟨c0, c1, c2, c3, c4, c5, c6⟩ := held7 (w := w) (k := 0) (p := p) (q := q) (e := e) (r := r) (s := s) (f := f) 91
      have HB : Below w.heap.size w (w.alloc (.cells #[.int .i64 0, .int .i64 p, .int .i64 q, .string e, .int .i64 r, .int .i64 s, .string f] 91)) := (Below.refl _ _).alloc (Nat.le_refl _) _
      go_enter Try.func96, Try.ntmps96
      go_wp2_with fail
      generalize w.alloc (.cells #[.int .i64 0, .int .i64 p, .int .i64 q, .string e, .int .i64 r, .int .i64 s, .string f] 91) = W1 at *
      go_wp2_with (first | (go_at_call 30; (with_reducible refine (right_any p q _).mono ?_); rintro e' w5 ⟨rfl, hb5⟩; rw [h1]; replace c0 := bkeep hb5 c0; replace c1 := bkeep hb5 c1; replace c2 := bkeep hb5 c2; replace c3 := bkeep hb5 c3; replace c4 := bkeep hb5 c4; replace c5 := bkeep hb5 c5; replace c6 := bkeep hb5 c6; replace HB := bt HB hb5; clear hb5) | (go_at_call 30; (with_reducible refine (right_any r s _).mono ?_); rintro e' w5 ⟨rfl, hb5⟩; rw [h2]; replace c0 := bkeep hb5 c0; replace c1 := bkeep hb5 c1; replace c2 := bkeep hb5 c2; replace c3 := bkeep hb5 c3; replace c4 := bkeep hb5 c4; replace c5 := bkeep hb5 c5; replace c6 := bkeep hb5 c6; replace HB := bt HB hb5; clear hb5) | (go_at_call 97; (with_reducible refine (compare_any _ _ _ _ _).mono ?_); rintro e' w5 ⟨rfl, hb5⟩; rw [hc]; replace c0 := bkeep hb5 c0; replace c1 := bkeep hb5 c1; replace c2 := bkeep hb5 c2; replace c3 := bkeep hb5 c3; replace c4 := bkeep hb5 c4; replace c5 := bkeep hb5 c5; replace c6 := bkeep hb5 c6; replace HB := bt HB hb5; clear hb5))
      go_ret
      exact ⟨congrArg (fun x => Ending.returned (.int .i64 x)) HF.out.symm, HB⟩
  · have HF : Hid (pairE ⟨p, q, e⟩ ⟨r, s, f⟩ = 10) := by rw [HP]; exact if_pos (.inl (by rw [hc]; exact hz))
    have hzb : (z != 3) = true := bne_iff_ne.2 hz
    clear HP hcz
    obtain ⟨c0, c1, c2, c3, c4, c5, c6⟩ := held7 (w := w) (k := 0) (p := p) (q := q) (e := e) (r := r) (s := s) (f := f) 91
    have HB : Below w.heap.size w (w.alloc (.cells #[.int .i64 0, .int .i64 p, .int .i64 q, .string e, .int .i64 r, .int .i64 s, .string f] 91)) := (Below.refl _ _).alloc (Nat.le_refl _) _
    go_enter Try.func96, Try.ntmps96
    go_wp2_with fail
    generalize w.alloc (.cells #[.int .i64 0, .int .i64 p, .int .i64 q, .string e, .int .i64 r, .int .i64 s, .string f] 91) = W1 at *
    go_wp2_with (first | (go_at_call 30; (with_reducible refine (right_any p q _).mono ?_); rintro e' w5 ⟨rfl, hb5⟩; rw [h1]; replace c0 := bkeep hb5 c0; replace c1 := bkeep hb5 c1; replace c2 := bkeep hb5 c2; replace c3 := bkeep hb5 c3; replace c4 := bkeep hb5 c4; replace c5 := bkeep hb5 c5; replace c6 := bkeep hb5 c6; replace HB := bt HB hb5; clear hb5) | (go_at_call 30; (with_reducible refine (right_any r s _).mono ?_); rintro e' w5 ⟨rfl, hb5⟩; rw [h2]; replace c0 := bkeep hb5 c0; replace c1 := bkeep hb5 c1; replace c2 := bkeep hb5 c2; replace c3 := bkeep hb5 c3; replace c4 := bkeep hb5 c4; replace c5 := bkeep hb5 c5; replace c6 := bkeep hb5 c6; replace HB := bt HB hb5; clear hb5) | (go_at_call 97; (with_reducible refine (compare_any _ _ _ _ _).mono ?_); rintro e' w5 ⟨rfl, hb5⟩; rw [hc]; replace c0 := bkeep hb5 c0; replace c1 := bkeep hb5 c1; replace c2 := bkeep hb5 c2; replace c3 := bkeep hb5 c3; replace c4 := bkeep hb5 c4; replace c5 := bkeep hb5 c5; replace c6 := bkeep hb5 c6; replace HB := bt HB hb5; clear hb5))
    go_ret
    exact ⟨congrArg (fun x => Ending.returned (.int .i64 x)) HF.out.symm, HB⟩
set_option maxHeartbeats 6400000 in
theorem rSlotCheck_any (p q : Int) (e : ByteArray) (r s : Int) (f : ByteArray) (w : World) : Calls Try.prog 55 #[PP 0 p q e r s f] w fun e' w' => e' = .returned (.int .i64 (pairE ⟨p, q, e⟩ ⟨r, s, f⟩)) ∧ Below w.heap.size w w' := by
  have HP : pairE ⟨p, q, e⟩ ⟨r, s, f⟩ = if rightB p q = false ∨ rightB r s = false then 3 else if e.size ≠ 128 ∨ f.size ≠ 128 then 12 else if cmpZ p q r s ≠ 3 ∨ p < r then 10 else 0 := rfl
  obtain ⟨z, hc⟩ : ∃ z, cmpZ p q r s = z := ⟨_, rfl⟩
  have hcz := cmp_vals p q r s
  cases h1 : rightB p q
  · have HF : Hid (pairE ⟨p, q, e⟩ ⟨r, s, f⟩ = 3) := by rw [HP]; exact if_pos (.inl h1)
    clear HP hcz
    obtain ⟨c0, c1, c2, c3, c4, c5, c6⟩ := held7 (w := w) (k := 0) (p := p) (q := q) (e := e) (r := r) (s := s) (f := f) 91
    have HB : Below w.heap.size w (w.alloc (.cells #[.int .i64 0, .int .i64 p, .int .i64 q, .string e, .int .i64 r, .int .i64 s, .string f] 91)) := (Below.refl _ _).alloc (Nat.le_refl _) _
    go_enter Try.func55, Try.ntmps55
    go_wp2_with fail
    generalize w.alloc (.cells #[.int .i64 0, .int .i64 p, .int .i64 q, .string e, .int .i64 r, .int .i64 s, .string f] 91) = W1 at *
    go_wp2_with (first | (go_at_call 33; (with_reducible refine (rright_any p q _).mono ?_); rintro e' w5 ⟨rfl, hb5⟩; rw [h1]; replace c0 := bkeep hb5 c0; replace c1 := bkeep hb5 c1; replace c2 := bkeep hb5 c2; replace c3 := bkeep hb5 c3; replace c4 := bkeep hb5 c4; replace c5 := bkeep hb5 c5; replace c6 := bkeep hb5 c6; replace HB := bt HB hb5; clear hb5) | (go_at_call 33; (with_reducible refine (rright_any r s _).mono ?_); rintro e' w5 ⟨rfl, hb5⟩; rw [h2]; replace c0 := bkeep hb5 c0; replace c1 := bkeep hb5 c1; replace c2 := bkeep hb5 c2; replace c3 := bkeep hb5 c3; replace c4 := bkeep hb5 c4; replace c5 := bkeep hb5 c5; replace c6 := bkeep hb5 c6; replace HB := bt HB hb5; clear hb5) | (go_at_call 68; (with_reducible refine (rcompare_any _ _ _ _ _).mono ?_); rintro e' w5 ⟨rfl, hb5⟩; rw [hc]; replace c0 := bkeep hb5 c0; replace c1 := bkeep hb5 c1; replace c2 := bkeep hb5 c2; replace c3 := bkeep hb5 c3; replace c4 := bkeep hb5 c4; replace c5 := bkeep hb5 c5; replace c6 := bkeep hb5 c6; replace HB := bt HB hb5; clear hb5))
    go_ret
    exact ⟨congrArg (fun x => Ending.returned (.int .i64 x)) HF.out.symm, HB⟩
  cases h2 : rightB r s
  · have HF : Hid (pairE ⟨p, q, e⟩ ⟨r, s, f⟩ = 3) := by rw [HP]; exact if_pos (.inr h2)
    clear HP hcz
    obtain ⟨c0, c1, c2, c3, c4, c5, c6⟩ := held7 (w := w) (k := 0) (p := p) (q := q) (e := e) (r := r) (s := s) (f := f) 91
    have HB : Below w.heap.size w (w.alloc (.cells #[.int .i64 0, .int .i64 p, .int .i64 q, .string e, .int .i64 r, .int .i64 s, .string f] 91)) := (Below.refl _ _).alloc (Nat.le_refl _) _
    go_enter Try.func55, Try.ntmps55
    go_wp2_with fail
    generalize w.alloc (.cells #[.int .i64 0, .int .i64 p, .int .i64 q, .string e, .int .i64 r, .int .i64 s, .string f] 91) = W1 at *
    go_wp2_with (first | (go_at_call 33; (with_reducible refine (rright_any p q _).mono ?_); rintro e' w5 ⟨rfl, hb5⟩; rw [h1]; replace c0 := bkeep hb5 c0; replace c1 := bkeep hb5 c1; replace c2 := bkeep hb5 c2; replace c3 := bkeep hb5 c3; replace c4 := bkeep hb5 c4; replace c5 := bkeep hb5 c5; replace c6 := bkeep hb5 c6; replace HB := bt HB hb5; clear hb5) | (go_at_call 33; (with_reducible refine (rright_any r s _).mono ?_); rintro e' w5 ⟨rfl, hb5⟩; rw [h2]; replace c0 := bkeep hb5 c0; replace c1 := bkeep hb5 c1; replace c2 := bkeep hb5 c2; replace c3 := bkeep hb5 c3; replace c4 := bkeep hb5 c4; replace c5 := bkeep hb5 c5; replace c6 := bkeep hb5 c6; replace HB := bt HB hb5; clear hb5) | (go_at_call 68; (with_reducible refine (rcompare_any _ _ _ _ _).mono ?_); rintro e' w5 ⟨rfl, hb5⟩; rw [hc]; replace c0 := bkeep hb5 c0; replace c1 := bkeep hb5 c1; replace c2 := bkeep hb5 c2; replace c3 := bkeep hb5 c3; replace c4 := bkeep hb5 c4; replace c5 := bkeep hb5 c5; replace c6 := bkeep hb5 c6; replace HB := bt HB hb5; clear hb5))
    go_ret
    exact ⟨congrArg (fun x => Ending.returned (.int .i64 x)) HF.out.symm, HB⟩
  rw [if_neg (by rw [h1, h2]; decide)] at HP
  by_cases he : e.size = 128
  case neg =>
    have HF : Hid (pairE ⟨p, q, e⟩ ⟨r, s, f⟩ = 12) := by rw [HP]; exact if_pos (.inl he)
    have hez := size_ne he
    clear HP hcz
    obtain ⟨c0, c1, c2, c3, c4, c5, c6⟩ := held7 (w := w) (k := 0) (p := p) (q := q) (e := e) (r := r) (s := s) (f := f) 91
    have HB : Below w.heap.size w (w.alloc (.cells #[.int .i64 0, .int .i64 p, .int .i64 q, .string e, .int .i64 r, .int .i64 s, .string f] 91)) := (Below.refl _ _).alloc (Nat.le_refl _) _
    go_enter Try.func55, Try.ntmps55
    go_wp2_with fail
    generalize w.alloc (.cells #[.int .i64 0, .int .i64 p, .int .i64 q, .string e, .int .i64 r, .int .i64 s, .string f] 91) = W1 at *
    go_wp2_with (first | (go_at_call 33; (with_reducible refine (rright_any p q _).mono ?_); rintro e' w5 ⟨rfl, hb5⟩; rw [h1]; replace c0 := bkeep hb5 c0; replace c1 := bkeep hb5 c1; replace c2 := bkeep hb5 c2; replace c3 := bkeep hb5 c3; replace c4 := bkeep hb5 c4; replace c5 := bkeep hb5 c5; replace c6 := bkeep hb5 c6; replace HB := bt HB hb5; clear hb5) | (go_at_call 33; (with_reducible refine (rright_any r s _).mono ?_); rintro e' w5 ⟨rfl, hb5⟩; rw [h2]; replace c0 := bkeep hb5 c0; replace c1 := bkeep hb5 c1; replace c2 := bkeep hb5 c2; replace c3 := bkeep hb5 c3; replace c4 := bkeep hb5 c4; replace c5 := bkeep hb5 c5; replace c6 := bkeep hb5 c6; replace HB := bt HB hb5; clear hb5) | (go_at_call 68; (with_reducible refine (rcompare_any _ _ _ _ _).mono ?_); rintro e' w5 ⟨rfl, hb5⟩; rw [hc]; replace c0 := bkeep hb5 c0; replace c1 := bkeep hb5 c1; replace c2 := bkeep hb5 c2; replace c3 := bkeep hb5 c3; replace c4 := bkeep hb5 c4; replace c5 := bkeep hb5 c5; replace c6 := bkeep hb5 c6; replace HB := bt HB hb5; clear hb5))
    go_ret
    exact ⟨congrArg (fun x => Ending.returned (.int .i64 x)) HF.out.symm, HB⟩
  by_cases hf : f.size = 128
  case neg =>
    have HF : Hid (pairE ⟨p, q, e⟩ ⟨r, s, f⟩ = 12) := by rw [HP]; exact if_pos (.inr hf)
    have hez := size_eq he
    have hfz := size_ne hf
    clear HP hcz
    obtain ⟨c0, c1, c2, c3, c4, c5, c6⟩ := held7 (w := w) (k := 0) (p := p) (q := q) (e := e) (r := r) (s := s) (f := f) 91
    have HB : Below w.heap.size w (w.alloc (.cells #[.int .i64 0, .int .i64 p, .int .i64 q, .string e, .int .i64 r, .int .i64 s, .string f] 91)) := (Below.refl _ _).alloc (Nat.le_refl _) _
    go_enter Try.func55, Try.ntmps55
    go_wp2_with fail
    generalize w.alloc (.cells #[.int .i64 0, .int .i64 p, .int .i64 q, .string e, .int .i64 r, .int .i64 s, .string f] 91) = W1 at *
    go_wp2_with (first | (go_at_call 33; (with_reducible refine (rright_any p q _).mono ?_); rintro e' w5 ⟨rfl, hb5⟩; rw [h1]; replace c0 := bkeep hb5 c0; replace c1 := bkeep hb5 c1; replace c2 := bkeep hb5 c2; replace c3 := bkeep hb5 c3; replace c4 := bkeep hb5 c4; replace c5 := bkeep hb5 c5; replace c6 := bkeep hb5 c6; replace HB := bt HB hb5; clear hb5) | (go_at_call 33; (with_reducible refine (rright_any r s _).mono ?_); rintro e' w5 ⟨rfl, hb5⟩; rw [h2]; replace c0 := bkeep hb5 c0; replace c1 := bkeep hb5 c1; replace c2 := bkeep hb5 c2; replace c3 := bkeep hb5 c3; replace c4 := bkeep hb5 c4; replace c5 := bkeep hb5 c5; replace c6 := bkeep hb5 c6; replace HB := bt HB hb5; clear hb5) | (go_at_call 68; (with_reducible refine (rcompare_any _ _ _ _ _).mono ?_); rintro e' w5 ⟨rfl, hb5⟩; rw [hc]; replace c0 := bkeep hb5 c0; replace c1 := bkeep hb5 c1; replace c2 := bkeep hb5 c2; replace c3 := bkeep hb5 c3; replace c4 := bkeep hb5 c4; replace c5 := bkeep hb5 c5; replace c6 := bkeep hb5 c6; replace HB := bt HB hb5; clear hb5))
    go_ret
    exact ⟨congrArg (fun x => Ending.returned (.int .i64 x)) HF.out.symm, HB⟩
  rw [if_neg (by rintro (h | h); exact h he; exact h hf)] at HP
  have hez := size_eq he
  have hfz := size_eq hf
  by_cases hz : z = 3
  · subst hz
    by_cases hl : p < r
    · have HF : Hid (pairE ⟨p, q, e⟩ ⟨r, s, f⟩ = 10) := by rw [HP]; exact if_pos (.inr hl)
      have hle : p ≤ r := by omega
      clear HP hcz
      obtain ⟨c0, c1, c2, c3, c4, c5, c6⟩ := held7 (w := w) (k := 0) (p := p) (q := q) (e := e) (r := r) (s := s) (f := f) 91
      have HB : Below w.heap.size w (w.alloc (.cells #[.int .i64 0, .int .i64 p, .int .i64 q, .string e, .int .i64 r, .int .i64 s, .string f] 91)) := (Below.refl _ _).alloc (Nat.le_refl _) _
      go_enter Try.func55, Try.ntmps55
      go_wp2_with fail
      generalize w.alloc (.cells #[.int .i64 0, .int .i64 p, .int .i64 q, .string e, .int .i64 r, .int .i64 s, .string f] 91) = W1 at *
      go_wp2_with (first | (go_at_call 33; (with_reducible refine (rright_any p q _).mono ?_); rintro e' w5 ⟨rfl, hb5⟩; rw [h1]; replace c0 := bkeep hb5 c0; replace c1 := bkeep hb5 c1; replace c2 := bkeep hb5 c2; replace c3 := bkeep hb5 c3; replace c4 := bkeep hb5 c4; replace c5 := bkeep hb5 c5; replace c6 := bkeep hb5 c6; replace HB := bt HB hb5; clear hb5) | (go_at_call 33; (with_reducible refine (rright_any r s _).mono ?_); rintro e' w5 ⟨rfl, hb5⟩; rw [h2]; replace c0 := bkeep hb5 c0; replace c1 := bkeep hb5 c1; replace c2 := bkeep hb5 c2; replace c3 := bkeep hb5 c3; replace c4 := bkeep hb5 c4; replace c5 := bkeep hb5 c5; replace c6 := bkeep hb5 c6; replace HB := bt HB hb5; clear hb5) | (go_at_call 68; (with_reducible refine (rcompare_any _ _ _ _ _).mono ?_); rintro e' w5 ⟨rfl, hb5⟩; rw [hc]; replace c0 := bkeep hb5 c0; replace c1 := bkeep hb5 c1; replace c2 := bkeep hb5 c2; replace c3 := bkeep hb5 c3; replace c4 := bkeep hb5 c4; replace c5 := bkeep hb5 c5; replace c6 := bkeep hb5 c6; replace HB := bt HB hb5; clear hb5))
      go_ret
      exact ⟨congrArg (fun x => Ending.returned (.int .i64 x)) HF.out.symm, HB⟩
    · have HF : Hid (pairE ⟨p, q, e⟩ ⟨r, s, f⟩ = 0) := by rw [HP]; exact if_neg (by rintro (h | h); exact h hc; exact hl h)
      have hle : ¬ p ≤ r := by have := hcz hc; omega
      clear HP hcz
      obtain ⟨c0, c1, c2, c3, c4, c5, c6⟩ := held7 (w := w) (k := 0) (p := p) (q := q) (e := e) (r := r) (s := s) (f := f) 91
      have HB : Below w.heap.size w (w.alloc (.cells #[.int .i64 0, .int .i64 p, .int .i64 q, .string e, .int .i64 r, .int .i64 s, .string f] 91)) := (Below.refl _ _).alloc (Nat.le_refl _) _
      go_enter Try.func55, Try.ntmps55
      go_wp2_with fail
      generalize w.alloc (.cells #[.int .i64 0, .int .i64 p, .int .i64 q, .string e, .int .i64 r, .int .i64 s, .string f] 91) = W1 at *
      go_wp2_with (first | (go_at_call 33; (with_reducible refine (rright_any p q _).mono ?_); rintro e' w5 ⟨rfl, hb5⟩; rw [h1]; replace c0 := bkeep hb5 c0; replace c1 := bkeep hb5 c1; replace c2 := bkeep hb5 c2; replace c3 := bkeep hb5 c3; replace c4 := bkeep hb5 c4; replace c5 := bkeep hb5 c5; replace c6 := bkeep hb5 c6; replace HB := bt HB hb5; clear hb5) | (go_at_call 33; (with_reducible refine (rright_any r s _).mono ?_); rintro e' w5 ⟨rfl, hb5⟩; rw [h2]; replace c0 := bkeep hb5 c0; replace c1 := bkeep hb5 c1; replace c2 := bkeep hb5 c2; replace c3 := bkeep hb5 c3; replace c4 := bkeep hb5 c4; replace c5 := bkeep hb5 c5; replace c6 := bkeep hb5 c6; replace HB := bt HB hb5; clear hb5) | (go_at_call 68; (with_reducible refine (rcompare_any _ _ _ _ _).mono ?_); rintro e' w5 ⟨rfl, hb5⟩; rw [hc]; replace c0 := bkeep hb5 c0; replace c1 := bkeep hb5 c1; replace c2 := bkeep hb5 c2; replace c3 := bkeep hb5 c3; replace c4 := bkeep hb5 c4; replace c5 := bkeep hb5 c5; replace c6 := bkeep hb5 c6; replace HB := bt HB hb5; clear hb5))
      go_ret
      exact ⟨congrArg (fun x => Ending.returned (.int .i64 x)) HF.out.symm, HB⟩
  · have HF : Hid (pairE ⟨p, q, e⟩ ⟨r, s, f⟩ = 10) := by rw [HP]; exact if_pos (.inl (by rw [hc]; exact hz))
    have hzb : (z != 3) = true := bne_iff_ne.2 hz
    clear HP hcz
    obtain ⟨c0, c1, c2, c3, c4, c5, c6⟩ := held7 (w := w) (k := 0) (p := p) (q := q) (e := e) (r := r) (s := s) (f := f) 91
    have HB : Below w.heap.size w (w.alloc (.cells #[.int .i64 0, .int .i64 p, .int .i64 q, .string e, .int .i64 r, .int .i64 s, .string f] 91)) := (Below.refl _ _).alloc (Nat.le_refl _) _
    go_enter Try.func55, Try.ntmps55
    go_wp2_with fail
    generalize w.alloc (.cells #[.int .i64 0, .int .i64 p, .int .i64 q, .string e, .int .i64 r, .int .i64 s, .string f] 91) = W1 at *
    go_wp2_with (first | (go_at_call 33; (with_reducible refine (rright_any p q _).mono ?_); rintro e' w5 ⟨rfl, hb5⟩; rw [h1]; replace c0 := bkeep hb5 c0; replace c1 := bkeep hb5 c1; replace c2 := bkeep hb5 c2; replace c3 := bkeep hb5 c3; replace c4 := bkeep hb5 c4; replace c5 := bkeep hb5 c5; replace c6 := bkeep hb5 c6; replace HB := bt HB hb5; clear hb5) | (go_at_call 33; (with_reducible refine (rright_any r s _).mono ?_); rintro e' w5 ⟨rfl, hb5⟩; rw [h2]; replace c0 := bkeep hb5 c0; replace c1 := bkeep hb5 c1; replace c2 := bkeep hb5 c2; replace c3 := bkeep hb5 c3; replace c4 := bkeep hb5 c4; replace c5 := bkeep hb5 c5; replace c6 := bkeep hb5 c6; replace HB := bt HB hb5; clear hb5) | (go_at_call 68; (with_reducible refine (rcompare_any _ _ _ _ _).mono ?_); rintro e' w5 ⟨rfl, hb5⟩; rw [hc]; replace c0 := bkeep hb5 c0; replace c1 := bkeep hb5 c1; replace c2 := bkeep hb5 c2; replace c3 := bkeep hb5 c3; replace c4 := bkeep hb5 c4; replace c5 := bkeep hb5 c5; replace c6 := bkeep hb5 c6; replace HB := bt HB hb5; clear hb5))
    go_ret
    exact ⟨congrArg (fun x => Ending.returned (.int .i64 x)) HF.out.symm, HB⟩
end Go.Proofs.Ytemfdmbjlmiopaa
