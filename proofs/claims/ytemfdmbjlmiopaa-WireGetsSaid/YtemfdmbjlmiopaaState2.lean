/-
  Package state (chapter 23): what is wrong with a state (2).
-/
import Derived.Test.YtemfdmbjlmiopaaState
namespace Go.Proofs.Ytemfdmbjlmiopaa
open Go.RowKit
set_option linter.unusedVariables false
set_option linter.unusedSimpArgs false
theorem vne (a b c d : Int) (W : World) : (binOp .neq 23 (VV a b) (VV c d)).run Try.prog W = .ok (.bool (!(decide (a = c) && decide (b = d)))) W := by
  by_cases h1 : a = c
  · by_cases h2 : b = d
    · simp [go_sem, h1, h2]
    · simp [go_sem, h1, h2]
  · simp [go_sem, h1]
theorem vne_at {a b c d : Int} {x : Bool} (h : (decide (a = c) && decide (b = d)) = x) (W : World) : (binOp .neq 23 (VV a b) (VV c d)).run Try.prog W = .ok (.bool (!x)) W := h ▸ vne a b c d W
set_option maxHeartbeats 6400000 in
theorem dcheck_any (k a b : Int) (d : ByteArray) (p q : Int) (e : ByteArray) (r s : Int) (f : ByteArray) (w : World) : Calls Try.prog 95 #[SS k a b d p q e r s f] w fun e' w' => e' = .returned (.int .i64 (clashE ⟨k, a, b, d, ⟨p, q, e⟩, ⟨r, s, f⟩⟩)) ∧ Below w.heap.size w w' := by
  have HP : clashE ⟨k, a, b, d, ⟨p, q, e⟩, ⟨r, s, f⟩⟩ = if pairE ⟨p, q, e⟩ ⟨r, s, f⟩ = 0 then (if a = p ∧ b = s ∧ d.size = 0 then 0 else 4) else pairE ⟨p, q, e⟩ ⟨r, s, f⟩ := rfl
  obtain ⟨E, hE⟩ : ∃ z, pairE ⟨p, q, e⟩ ⟨r, s, f⟩ = z := ⟨_, rfl⟩
  rw [hE] at HP
  by_cases h0 : E = 0
  case neg =>
    have HF : Hid (clashE ⟨k, a, b, d, ⟨p, q, e⟩, ⟨r, s, f⟩⟩ = E) := by rw [HP]; exact if_neg h0
    have hne : (E != 0) = true := bne_iff_ne.2 h0
    clear HP h0
    obtain ⟨c0, c1, c2, c3, c4, c5, c6, c7, c8, c9⟩ := held10 (w := w) (k := k) (a := a) (b := b) (d := d) (p := p) (q := q) (e := e) (r := r) (s := s) (f := f) 104
    have HB : Below w.heap.size w (w.alloc (.cells #[.int .i64 k, .int .i64 a, .int .i64 b, .string d, .int .i64 p, .int .i64 q, .string e, .int .i64 r, .int .i64 s, .string f] 104)) := (Below.refl _ _).alloc (Nat.le_refl _) _
    go_enter Try.func95, Try.ntmps95
    go_wp2_with fail
    generalize w.alloc (.cells #[.int .i64 k, .int .i64 a, .int .i64 b, .string d, .int .i64 p, .int .i64 q, .string e, .int .i64 r, .int .i64 s, .string f] 104) = W1 at *
    go_wp2_with (go_at_call 96; (with_reducible refine (slotCheck_any _ _ _ _ _ _ _).mono ?_); rintro e' w5 ⟨rfl, hb5⟩; rw [hE]; replace c0 := bkeep hb5 c0; replace c1 := bkeep hb5 c1; replace c2 := bkeep hb5 c2; replace c3 := bkeep hb5 c3; replace c4 := bkeep hb5 c4; replace c5 := bkeep hb5 c5; replace c6 := bkeep hb5 c6; replace c7 := bkeep hb5 c7; replace c8 := bkeep hb5 c8; replace c9 := bkeep hb5 c9; replace HB := bt HB hb5; clear hb5)
    go_ret
    exact ⟨congrArg (fun x => Ending.returned (.int .i64 x)) HF.out.symm, HB⟩
  subst h0
  rw [if_pos rfl] at HP
  by_cases hv : a = p ∧ b = s
  case neg =>
    have HF : Hid (clashE ⟨k, a, b, d, ⟨p, q, e⟩, ⟨r, s, f⟩⟩ = 4) := by rw [HP]; exact if_neg (fun h => hv ⟨h.1, h.2.1⟩)
    have e1 := fun W => vne_at (a := a) (b := b) (c := p) (d := s) (x := false) (by rw [Bool.and_eq_false_iff, decide_eq_false_iff_not, decide_eq_false_iff_not]; by_cases h : a = p; exact .inr (fun h' => hv ⟨h, h'⟩); exact .inl h) W
    clear HP hv
    obtain ⟨c0, c1, c2, c3, c4, c5, c6, c7, c8, c9⟩ := held10 (w := w) (k := k) (a := a) (b := b) (d := d) (p := p) (q := q) (e := e) (r := r) (s := s) (f := f) 104
    have HB : Below w.heap.size w (w.alloc (.cells #[.int .i64 k, .int .i64 a, .int .i64 b, .string d, .int .i64 p, .int .i64 q, .string e, .int .i64 r, .int .i64 s, .string f] 104)) := (Below.refl _ _).alloc (Nat.le_refl _) _
    go_enter Try.func95, Try.ntmps95
    go_wp2_with fail
    generalize w.alloc (.cells #[.int .i64 k, .int .i64 a, .int .i64 b, .string d, .int .i64 p, .int .i64 q, .string e, .int .i64 r, .int .i64 s, .string f] 104) = W1 at *
    go_wp2_with (go_at_call 96; (with_reducible refine (slotCheck_any _ _ _ _ _ _ _).mono ?_); rintro e' w5 ⟨rfl, hb5⟩; rw [hE]; replace c0 := bkeep hb5 c0; replace c1 := bkeep hb5 c1; replace c2 := bkeep hb5 c2; replace c3 := bkeep hb5 c3; replace c4 := bkeep hb5 c4; replace c5 := bkeep hb5 c5; replace c6 := bkeep hb5 c6; replace c7 := bkeep hb5 c7; replace c8 := bkeep hb5 c8; replace c9 := bkeep hb5 c9; replace HB := bt HB hb5; clear hb5)
    go_ret
    exact ⟨congrArg (fun x => Ending.returned (.int .i64 x)) HF.out.symm, HB⟩
  have e1 := fun W => vne_at (a := a) (b := b) (c := p) (d := s) (x := true) (by simp [hv.1, hv.2]) W
  have hem := empty_size d
  by_cases hd : d.size = 0
  · have HF : Hid (clashE ⟨k, a, b, d, ⟨p, q, e⟩, ⟨r, s, f⟩⟩ = 0) := by rw [HP]; exact if_pos ⟨hv.1, hv.2, hd⟩
    rw [decide_eq_true hd] at hem
    clear HP hv hd
    obtain ⟨c0, c1, c2, c3, c4, c5, c6, c7, c8, c9⟩ := held10 (w := w) (k := k) (a := a) (b := b) (d := d) (p := p) (q := q) (e := e) (r := r) (s := s) (f := f) 104
    have HB : Below w.heap.size w (w.alloc (.cells #[.int .i64 k, .int .i64 a, .int .i64 b, .string d, .int .i64 p, .int .i64 q, .string e, .int .i64 r, .int .i64 s, .string f] 104)) := (Below.refl _ _).alloc (Nat.le_refl _) _
    go_enter Try.func95, Try.ntmps95
    go_wp2_with fail
    generalize w.alloc (.cells #[.int .i64 k, .int .i64 a, .int .i64 b, .string d, .int .i64 p, .int .i64 q, .string e, .int .i64 r, .int .i64 s, .string f] 104) = W1 at *
    go_wp2_with (go_at_call 96; (with_reducible refine (slotCheck_any _ _ _ _ _ _ _).mono ?_); rintro e' w5 ⟨rfl, hb5⟩; rw [hE]; replace c0 := bkeep hb5 c0; replace c1 := bkeep hb5 c1; replace c2 := bkeep hb5 c2; replace c3 := bkeep hb5 c3; replace c4 := bkeep hb5 c4; replace c5 := bkeep hb5 c5; replace c6 := bkeep hb5 c6; replace c7 := bkeep hb5 c7; replace c8 := bkeep hb5 c8; replace c9 := bkeep hb5 c9; replace HB := bt HB hb5; clear hb5)
    go_ret
    exact ⟨congrArg (fun x => Ending.returned (.int .i64 x)) HF.out.symm, HB⟩
  · have HF : Hid (clashE ⟨k, a, b, d, ⟨p, q, e⟩, ⟨r, s, f⟩⟩ = 4) := by rw [HP]; exact if_neg (fun h => hd h.2.2)
    rw [decide_eq_false hd] at hem
    clear HP hv hd
    obtain ⟨c0, c1, c2, c3, c4, c5, c6, c7, c8, c9⟩ := held10 (w := w) (k := k) (a := a) (b := b) (d := d) (p := p) (q := q) (e := e) (r := r) (s := s) (f := f) 104
    have HB : Below w.heap.size w (w.alloc (.cells #[.int .i64 k, .int .i64 a, .int .i64 b, .string d, .int .i64 p, .int .i64 q, .string e, .int .i64 r, .int .i64 s, .string f] 104)) := (Below.refl _ _).alloc (Nat.le_refl _) _
    go_enter Try.func95, Try.ntmps95
    go_wp2_with fail
    generalize w.alloc (.cells #[.int .i64 k, .int .i64 a, .int .i64 b, .string d, .int .i64 p, .int .i64 q, .string e, .int .i64 r, .int .i64 s, .string f] 104) = W1 at *
    go_wp2_with (go_at_call 96; (with_reducible refine (slotCheck_any _ _ _ _ _ _ _).mono ?_); rintro e' w5 ⟨rfl, hb5⟩; rw [hE]; replace c0 := bkeep hb5 c0; replace c1 := bkeep hb5 c1; replace c2 := bkeep hb5 c2; replace c3 := bkeep hb5 c3; replace c4 := bkeep hb5 c4; replace c5 := bkeep hb5 c5; replace c6 := bkeep hb5 c6; replace c7 := bkeep hb5 c7; replace c8 := bkeep hb5 c8; replace c9 := bkeep hb5 c9; replace HB := bt HB hb5; clear hb5)
    go_ret
    exact ⟨congrArg (fun x => Ending.returned (.int .i64 x)) HF.out.symm, HB⟩
theorem of_any (k a b : Int) (d : ByteArray) (p q : Int) (e : ByteArray) (r s : Int) (f : ByteArray) (w : World) : Calls Try.prog 54 #[SS k a b d p q e r s f] w fun e' w' => e' = .returned (if k = 0 then .iface 102 (SS k a b d p q e r s f) else if k = 1 then .iface 104 (SS k a b d p q e r s f) else .nilIface) ∧ Below w.heap.size w w' := by
  by_cases h0 : k = 0
  · subst h0
    rw [if_pos rfl]
    go_enter Try.func54, Try.ntmps54
    go_wp2
    go_ret
    exact ⟨rfl, (Below.refl _ _).alloc (Nat.le_refl _) _⟩
  have b0 : (k == 0) = false := beq_eq_false_iff_ne.2 h0
  by_cases h1 : k = 1
  · subst h1
    rw [if_neg h0, if_pos rfl]
    clear h0
    go_enter Try.func54, Try.ntmps54
    go_wp2
    go_ret
    exact ⟨rfl, (Below.refl _ _).alloc (Nat.le_refl _) _⟩
  · have b1 : (k == 1) = false := beq_eq_false_iff_ne.2 h1
    rw [if_neg h0, if_neg h1]
    clear h0 h1
    go_enter Try.func54, Try.ntmps54
    go_wp2
    go_ret
    exact ⟨rfl, (Below.refl _ _).alloc (Nat.le_refl _) _⟩
set_option maxHeartbeats 3200000 in
theorem check_any (k a b : Int) (d : ByteArray) (p q : Int) (e : ByteArray) (r s : Int) (f : ByteArray) (w : World) : Calls Try.prog 31 #[SS k a b d p q e r s f] w fun e' w' => e' = .returned (.int .i64 (chkE ⟨k, a, b, d, ⟨p, q, e⟩, ⟨r, s, f⟩⟩)) ∧ Below w.heap.size w w' := by
  have HP : chkE ⟨k, a, b, d, ⟨p, q, e⟩, ⟨r, s, f⟩⟩ = if k = 0 then plainE ⟨k, a, b, d, ⟨p, q, e⟩, ⟨r, s, f⟩⟩ else if k = 1 then clashE ⟨k, a, b, d, ⟨p, q, e⟩, ⟨r, s, f⟩⟩ else 7 := rfl
  by_cases h0 : k = 0
  · subst h0
    rw [if_pos rfl] at HP
    rw [HP]
    have O := Lib.hid (fun w => of_any 0 a b d p q e r s f w)
    rw [if_pos rfl] at O
    clear HP
    go_enter Try.func31, Try.ntmps31
    go_wp2_with (first | (go_at_call 54; (with_reducible refine (O.out _).mono ?_); rintro e' w5 ⟨rfl, hb5⟩) | (go_at_call 94; (with_reducible refine (scheck_any _ _ _ _ _ _ _ _ _ _ _).mono ?_); rintro e' w6 ⟨rfl, hb6⟩))
    go_ret
    first | exact ⟨rfl, bt (bt ((Below.refl _ _).alloc (Nat.le_refl _) _) hb5) hb6⟩ | exact ⟨rfl, bt ((Below.refl _ _).alloc (Nat.le_refl _) _) hb5⟩
  by_cases h1 : k = 1
  · subst h1
    rw [if_neg h0, if_pos rfl] at HP
    rw [HP]
    have O := Lib.hid (fun w => of_any 1 a b d p q e r s f w)
    rw [if_neg h0, if_pos rfl] at O
    clear HP h0
    go_enter Try.func31, Try.ntmps31
    go_wp2_with (first | (go_at_call 54; (with_reducible refine (O.out _).mono ?_); rintro e' w5 ⟨rfl, hb5⟩) | (go_at_call 95; (with_reducible refine (dcheck_any _ _ _ _ _ _ _ _ _ _ _).mono ?_); rintro e' w6 ⟨rfl, hb6⟩))
    go_ret
    first | exact ⟨rfl, bt (bt ((Below.refl _ _).alloc (Nat.le_refl _) _) hb5) hb6⟩ | exact ⟨rfl, bt ((Below.refl _ _).alloc (Nat.le_refl _) _) hb5⟩
  · rw [if_neg h0, if_neg h1] at HP
    rw [HP]
    have O := Lib.hid (fun w => of_any k a b d p q e r s f w)
    rw [if_neg h0, if_neg h1] at O
    clear HP h0 h1
    go_enter Try.func31, Try.ntmps31
    go_wp2_with (first | (go_at_call 54; (with_reducible refine (O.out _).mono ?_); rintro e' w5 ⟨rfl, hb5⟩) | (go_at_call 95; (with_reducible refine (dcheck_any _ _ _ _ _ _ _ _ _ _ _).mono ?_); rintro e' w6 ⟨rfl, hb6⟩))
    go_ret
    first | exact ⟨rfl, bt (bt ((Below.refl _ _).alloc (Nat.le_refl _) _) hb5) hb6⟩ | exact ⟨rfl, bt ((Below.refl _ _).alloc (Nat.le_refl _) _) hb5⟩
set_option maxHeartbeats 6400000 in
theorem rcheck_any (k a b : Int) (d : ByteArray) (p q : Int) (e : ByteArray) (r s : Int) (f : ByteArray) (w : World) : Calls Try.prog 34 #[SS k a b d p q e r s f] w fun e' w' => e' = .returned (.int .i64 (chkE ⟨k, a, b, d, ⟨p, q, e⟩, ⟨r, s, f⟩⟩)) ∧ Below w.heap.size w w' := by
  have HP : chkE ⟨k, a, b, d, ⟨p, q, e⟩, ⟨r, s, f⟩⟩ = if k = 0 then plainE ⟨k, a, b, d, ⟨p, q, e⟩, ⟨r, s, f⟩⟩ else if k = 1 then clashE ⟨k, a, b, d, ⟨p, q, e⟩, ⟨r, s, f⟩⟩ else 7 := rfl
  by_cases h0 : k = 0
  · rw [if_pos h0] at HP
    have hk0 : (k == 0) = true := beq_iff_eq.2 h0
    have HQ : plainE ⟨k, a, b, d, ⟨p, q, e⟩, ⟨r, s, f⟩⟩ = if rightB a b = false then 3 else if d.size ≠ 128 then 12 else if Ve.none ⟨p, q, e⟩ = false ∨ Ve.none ⟨r, s, f⟩ = false then 4 else 0 := rfl
    rw [HQ] at HP
    clear HQ h0
    cases h1 : rightB a b
    · have HF : Hid (chkE ⟨k, a, b, d, ⟨p, q, e⟩, ⟨r, s, f⟩⟩ = 3) := by show _ = _; rw [HP]; exact if_pos h1
      clear HP
      obtain ⟨c0, c1, c2, c3, c4, c5, c6, c7, c8, c9⟩ := held10 (w := w) (k := k) (a := a) (b := b) (d := d) (p := p) (q := q) (e := e) (r := r) (s := s) (f := f) 27
      have hA1 : Below w.heap.size w (w.alloc (.cells #[.int .i64 k, .int .i64 a, .int .i64 b, .string d, .int .i64 p, .int .i64 q, .string e, .int .i64 r, .int .i64 s, .string f] 27)) := (Below.refl _ _).alloc (Nat.le_refl _) _
      have hz1 : (w.alloc (.cells #[.int .i64 k, .int .i64 a, .int .i64 b, .string d, .int .i64 p, .int .i64 q, .string e, .int .i64 r, .int .i64 s, .string f] 27)).heap.size = w.heap.size + 1 := by simp
      go_enter Try.func34, Try.ntmps34
      go_wp2_with fail
      generalize w.alloc (.cells #[.int .i64 k, .int .i64 a, .int .i64 b, .string d, .int .i64 p, .int .i64 q, .string e, .int .i64 r, .int .i64 s, .string f] 27) = W1 at *
      obtain ⟨n0, n1, n2⟩ := held3 (w := W1) (p := 0) (q := 0) (e := ⟨#[]⟩) 25
      rw [hz1] at n0 n1 n2
      have hA2 : Below W1.heap.size W1 (W1.alloc (.cells #[.int .i64 0, .int .i64 0, .string ⟨#[]⟩] 25)) := (Below.refl _ _).alloc (Nat.le_refl _) _
      replace c0 := bkeep hA2 c0
      replace c1 := bkeep hA2 c1
      replace c2 := bkeep hA2 c2
      replace c3 := bkeep hA2 c3
      replace c4 := bkeep hA2 c4
      replace c5 := bkeep hA2 c5
      replace c6 := bkeep hA2 c6
      replace c7 := bkeep hA2 c7
      replace c8 := bkeep hA2 c8
      replace c9 := bkeep hA2 c9
      have HB := bt hA1 hA2
      clear hA1 hA2
      generalize W1.alloc (.cells #[.int .i64 0, .int .i64 0, .string ⟨#[]⟩] 25) = W2 at *
      go_wp2_with (first | (go_at_call 33; (with_reducible refine (rright_any _ _ _).mono ?_); rintro e' w5 ⟨rfl, hb5⟩; rw [h1]; replace c0 := bkeep hb5 c0; replace c1 := bkeep hb5 c1; replace c2 := bkeep hb5 c2; replace c3 := bkeep hb5 c3; replace c4 := bkeep hb5 c4; replace c5 := bkeep hb5 c5; replace c6 := bkeep hb5 c6; replace c7 := bkeep hb5 c7; replace c8 := bkeep hb5 c8; replace c9 := bkeep hb5 c9; replace n0 := bkeep hb5 n0; replace n1 := bkeep hb5 n1; replace n2 := bkeep hb5 n2; replace HB := bt HB hb5; clear hb5) | (go_at_call 55; (with_reducible refine (rSlotCheck_any _ _ _ _ _ _ _).mono ?_); rintro e' w5 ⟨rfl, hb5⟩; rw [hE]; replace c0 := bkeep hb5 c0; replace c1 := bkeep hb5 c1; replace c2 := bkeep hb5 c2; replace c3 := bkeep hb5 c3; replace c4 := bkeep hb5 c4; replace c5 := bkeep hb5 c5; replace c6 := bkeep hb5 c6; replace c7 := bkeep hb5 c7; replace c8 := bkeep hb5 c8; replace c9 := bkeep hb5 c9; replace n0 := bkeep hb5 n0; replace n1 := bkeep hb5 n1; replace n2 := bkeep hb5 n2; replace HB := bt HB hb5; clear hb5))
      go_ret
      exact ⟨congrArg (fun x => Ending.returned (.int .i64 x)) HF.out.symm, HB⟩
    rw [if_neg (by rw [h1]; decide)] at HP
    by_cases hd : d.size = 128
    · rw [if_neg (fun h => h hd)] at HP
      have hdz := size_eq hd
      cases hx : Ve.none ⟨p, q, e⟩
      · have HF : Hid (chkE ⟨k, a, b, d, ⟨p, q, e⟩, ⟨r, s, f⟩⟩ = 4) := by show _ = _; rw [HP]; exact if_pos (.inl hx)
        have e1 := fun W => veq_none p q e W
        rw [hx] at e1
        clear HP
        obtain ⟨c0, c1, c2, c3, c4, c5, c6, c7, c8, c9⟩ := held10 (w := w) (k := k) (a := a) (b := b) (d := d) (p := p) (q := q) (e := e) (r := r) (s := s) (f := f) 27
        have hA1 : Below w.heap.size w (w.alloc (.cells #[.int .i64 k, .int .i64 a, .int .i64 b, .string d, .int .i64 p, .int .i64 q, .string e, .int .i64 r, .int .i64 s, .string f] 27)) := (Below.refl _ _).alloc (Nat.le_refl _) _
        have hz1 : (w.alloc (.cells #[.int .i64 k, .int .i64 a, .int .i64 b, .string d, .int .i64 p, .int .i64 q, .string e, .int .i64 r, .int .i64 s, .string f] 27)).heap.size = w.heap.size + 1 := by simp
        go_enter Try.func34, Try.ntmps34
        go_wp2_with fail
        generalize w.alloc (.cells #[.int .i64 k, .int .i64 a, .int .i64 b, .string d, .int .i64 p, .int .i64 q, .string e, .int .i64 r, .int .i64 s, .string f] 27) = W1 at *
        obtain ⟨n0, n1, n2⟩ := held3 (w := W1) (p := 0) (q := 0) (e := ⟨#[]⟩) 25
        rw [hz1] at n0 n1 n2
        have hA2 : Below W1.heap.size W1 (W1.alloc (.cells #[.int .i64 0, .int .i64 0, .string ⟨#[]⟩] 25)) := (Below.refl _ _).alloc (Nat.le_refl _) _
        replace c0 := bkeep hA2 c0
        replace c1 := bkeep hA2 c1
        replace c2 := bkeep hA2 c2
        replace c3 := bkeep hA2 c3
        replace c4 := bkeep hA2 c4
        replace c5 := bkeep hA2 c5
        replace c6 := bkeep hA2 c6
        replace c7 := bkeep hA2 c7
        replace c8 := bkeep hA2 c8
        replace c9 := bkeep hA2 c9
        have HB := bt hA1 hA2
        clear hA1 hA2
        generalize W1.alloc (.cells #[.int .i64 0, .int .i64 0, .string ⟨#[]⟩] 25) = W2 at *
        go_wp2_with (first | (go_at_call 33; (with_reducible refine (rright_any _ _ _).mono ?_); rintro e' w5 ⟨rfl, hb5⟩; rw [h1]; replace c0 := bkeep hb5 c0; replace c1 := bkeep hb5 c1; replace c2 := bkeep hb5 c2; replace c3 := bkeep hb5 c3; replace c4 := bkeep hb5 c4; replace c5 := bkeep hb5 c5; replace c6 := bkeep hb5 c6; replace c7 := bkeep hb5 c7; replace c8 := bkeep hb5 c8; replace c9 := bkeep hb5 c9; replace n0 := bkeep hb5 n0; replace n1 := bkeep hb5 n1; replace n2 := bkeep hb5 n2; replace HB := bt HB hb5; clear hb5) | (go_at_call 55; (with_reducible refine (rSlotCheck_any _ _ _ _ _ _ _).mono ?_); rintro e' w5 ⟨rfl, hb5⟩; rw [hE]; replace c0 := bkeep hb5 c0; replace c1 := bkeep hb5 c1; replace c2 := bkeep hb5 c2; replace c3 := bkeep hb5 c3; replace c4 := bkeep hb5 c4; replace c5 := bkeep hb5 c5; replace c6 := bkeep hb5 c6; replace c7 := bkeep hb5 c7; replace c8 := bkeep hb5 c8; replace c9 := bkeep hb5 c9; replace n0 := bkeep hb5 n0; replace n1 := bkeep hb5 n1; replace n2 := bkeep hb5 n2; replace HB := bt HB hb5; clear hb5))
        go_ret
        exact ⟨congrArg (fun x => Ending.returned (.int .i64 x)) HF.out.symm, HB⟩
      · cases hy : Ve.none ⟨r, s, f⟩
        · have HF : Hid (chkE ⟨k, a, b, d, ⟨p, q, e⟩, ⟨r, s, f⟩⟩ = 4) := by show _ = _; rw [HP]; exact if_pos (.inr hy)
          have e1 := fun W => veq_none p q e W
          have e2 := fun W => veq_none r s f W
          rw [hx] at e1
          rw [hy] at e2
          clear HP
          obtain ⟨c0, c1, c2, c3, c4, c5, c6, c7, c8, c9⟩ := held10 (w := w) (k := k) (a := a) (b := b) (d := d) (p := p) (q := q) (e := e) (r := r) (s := s) (f := f) 27
          have hA1 : Below w.heap.size w (w.alloc (.cells #[.int .i64 k, .int .i64 a, .int .i64 b, .string d, .int .i64 p, .int .i64 q, .string e, .int .i64 r, .int .i64 s, .string f] 27)) := (Below.refl _ _).alloc (Nat.le_refl _) _
          have hz1 : (w.alloc (.cells #[.int .i64 k, .int .i64 a, .int .i64 b, .string d, .int .i64 p, .int .i64 q, .string e, .int .i64 r, .int .i64 s, .string f] 27)).heap.size = w.heap.size + 1 := by simp
          go_enter Try.func34, Try.ntmps34
          go_wp2_with fail
          generalize w.alloc (.cells #[.int .i64 k, .int .i64 a, .int .i64 b, .string d, .int .i64 p, .int .i64 q, .string e, .int .i64 r, .int .i64 s, .string f] 27) = W1 at *
          obtain ⟨n0, n1, n2⟩ := held3 (w := W1) (p := 0) (q := 0) (e := ⟨#[]⟩) 25
          rw [hz1] at n0 n1 n2
          have hA2 : Below W1.heap.size W1 (W1.alloc (.cells #[.int .i64 0, .int .i64 0, .string ⟨#[]⟩] 25)) := (Below.refl _ _).alloc (Nat.le_refl _) _
          replace c0 := bkeep hA2 c0
          replace c1 := bkeep hA2 c1
          replace c2 := bkeep hA2 c2
          replace c3 := bkeep hA2 c3
          replace c4 := bkeep hA2 c4
          replace c5 := bkeep hA2 c5
          replace c6 := bkeep hA2 c6
          replace c7 := bkeep hA2 c7
          replace c8 := bkeep hA2 c8
          replace c9 := bkeep hA2 c9
          have HB := bt hA1 hA2
          clear hA1 hA2
          generalize W1.alloc (.cells #[.int .i64 0, .int .i64 0, .string ⟨#[]⟩] 25) = W2 at *
          go_wp2_with (first | (go_at_call 33; (with_reducible refine (rright_any _ _ _).mono ?_); rintro e' w5 ⟨rfl, hb5⟩; rw [h1]; replace c0 := bkeep hb5 c0; replace c1 := bkeep hb5 c1; replace c2 := bkeep hb5 c2; replace c3 := bkeep hb5 c3; replace c4 := bkeep hb5 c4; replace c5 := bkeep hb5 c5; replace c6 := bkeep hb5 c6; replace c7 := bkeep hb5 c7; replace c8 := bkeep hb5 c8; replace c9 := bkeep hb5 c9; replace n0 := bkeep hb5 n0; replace n1 := bkeep hb5 n1; replace n2 := bkeep hb5 n2; replace HB := bt HB hb5; clear hb5) | (go_at_call 55; (with_reducible refine (rSlotCheck_any _ _ _ _ _ _ _).mono ?_); rintro e' w5 ⟨rfl, hb5⟩; rw [hE]; replace c0 := bkeep hb5 c0; replace c1 := bkeep hb5 c1; replace c2 := bkeep hb5 c2; replace c3 := bkeep hb5 c3; replace c4 := bkeep hb5 c4; replace c5 := bkeep hb5 c5; replace c6 := bkeep hb5 c6; replace c7 := bkeep hb5 c7; replace c8 := bkeep hb5 c8; replace c9 := bkeep hb5 c9; replace n0 := bkeep hb5 n0; replace n1 := bkeep hb5 n1; replace n2 := bkeep hb5 n2; replace HB := bt HB hb5; clear hb5))
          go_ret
          exact ⟨congrArg (fun x => Ending.returned (.int .i64 x)) HF.out.symm, HB⟩
        · have HF : Hid (chkE ⟨k, a, b, d, ⟨p, q, e⟩, ⟨r, s, f⟩⟩ = 0) := by show _ = _; rw [HP]; exact if_neg (by rw [hx, hy]; decide)
          have e1 := fun W => veq_none p q e W
          have e2 := fun W => veq_none r s f W
          rw [hx] at e1
          rw [hy] at e2
          clear HP
          obtain ⟨c0, c1, c2, c3, c4, c5, c6, c7, c8, c9⟩ := held10 (w := w) (k := k) (a := a) (b := b) (d := d) (p := p) (q := q) (e := e) (r := r) (s := s) (f := f) 27
          have hA1 : Below w.heap.size w (w.alloc (.cells #[.int .i64 k, .int .i64 a, .int .i64 b, .string d, .int .i64 p, .int .i64 q, .string e, .int .i64 r, .int .i64 s, .string f] 27)) := (Below.refl _ _).alloc (Nat.le_refl _) _
          have hz1 : (w.alloc (.cells #[.int .i64 k, .int .i64 a, .int .i64 b, .string d, .int .i64 p, .int .i64 q, .string e, .int .i64 r, .int .i64 s, .string f] 27)).heap.size = w.heap.size + 1 := by simp
          go_enter Try.func34, Try.ntmps34
          go_wp2_with fail
          generalize w.alloc (.cells #[.int .i64 k, .int .i64 a, .int .i64 b, .string d, .int .i64 p, .int .i64 q, .string e, .int .i64 r, .int .i64 s, .string f] 27) = W1 at *
          obtain ⟨n0, n1, n2⟩ := held3 (w := W1) (p := 0) (q := 0) (e := ⟨#[]⟩) 25
          rw [hz1] at n0 n1 n2
          have hA2 : Below W1.heap.size W1 (W1.alloc (.cells #[.int .i64 0, .int .i64 0, .string ⟨#[]⟩] 25)) := (Below.refl _ _).alloc (Nat.le_refl _) _
          replace c0 := bkeep hA2 c0
          replace c1 := bkeep hA2 c1
          replace c2 := bkeep hA2 c2
          replace c3 := bkeep hA2 c3
          replace c4 := bkeep hA2 c4
          replace c5 := bkeep hA2 c5
          replace c6 := bkeep hA2 c6
          replace c7 := bkeep hA2 c7
          replace c8 := bkeep hA2 c8
          replace c9 := bkeep hA2 c9
          have HB := bt hA1 hA2
          clear hA1 hA2
          generalize W1.alloc (.cells #[.int .i64 0, .int .i64 0, .string ⟨#[]⟩] 25) = W2 at *
          go_wp2_with (first | (go_at_call 33; (with_reducible refine (rright_any _ _ _).mono ?_); rintro e' w5 ⟨rfl, hb5⟩; rw [h1]; replace c0 := bkeep hb5 c0; replace c1 := bkeep hb5 c1; replace c2 := bkeep hb5 c2; replace c3 := bkeep hb5 c3; replace c4 := bkeep hb5 c4; replace c5 := bkeep hb5 c5; replace c6 := bkeep hb5 c6; replace c7 := bkeep hb5 c7; replace c8 := bkeep hb5 c8; replace c9 := bkeep hb5 c9; replace n0 := bkeep hb5 n0; replace n1 := bkeep hb5 n1; replace n2 := bkeep hb5 n2; replace HB := bt HB hb5; clear hb5) | (go_at_call 55; (with_reducible refine (rSlotCheck_any _ _ _ _ _ _ _).mono ?_); rintro e' w5 ⟨rfl, hb5⟩; rw [hE]; replace c0 := bkeep hb5 c0; replace c1 := bkeep hb5 c1; replace c2 := bkeep hb5 c2; replace c3 := bkeep hb5 c3; replace c4 := bkeep hb5 c4; replace c5 := bkeep hb5 c5; replace c6 := bkeep hb5 c6; replace c7 := bkeep hb5 c7; replace c8 := bkeep hb5 c8; replace c9 := bkeep hb5 c9; replace n0 := bkeep hb5 n0; replace n1 := bkeep hb5 n1; replace n2 := bkeep hb5 n2; replace HB := bt HB hb5; clear hb5))
          go_ret
          exact ⟨congrArg (fun x => Ending.returned (.int .i64 x)) HF.out.symm, HB⟩
    · have HF : Hid (chkE ⟨k, a, b, d, ⟨p, q, e⟩, ⟨r, s, f⟩⟩ = 12) := by show _ = _; rw [HP]; exact if_pos hd
      have hdz := size_ne hd
      clear HP
      obtain ⟨c0, c1, c2, c3, c4, c5, c6, c7, c8, c9⟩ := held10 (w := w) (k := k) (a := a) (b := b) (d := d) (p := p) (q := q) (e := e) (r := r) (s := s) (f := f) 27
      have hA1 : Below w.heap.size w (w.alloc (.cells #[.int .i64 k, .int .i64 a, .int .i64 b, .string d, .int .i64 p, .int .i64 q, .string e, .int .i64 r, .int .i64 s, .string f] 27)) := (Below.refl _ _).alloc (Nat.le_refl _) _
      have hz1 : (w.alloc (.cells #[.int .i64 k, .int .i64 a, .int .i64 b, .string d, .int .i64 p, .int .i64 q, .string e, .int .i64 r, .int .i64 s, .string f] 27)).heap.size = w.heap.size + 1 := by simp
      go_enter Try.func34, Try.ntmps34
      go_wp2_with fail
      generalize w.alloc (.cells #[.int .i64 k, .int .i64 a, .int .i64 b, .string d, .int .i64 p, .int .i64 q, .string e, .int .i64 r, .int .i64 s, .string f] 27) = W1 at *
      obtain ⟨n0, n1, n2⟩ := held3 (w := W1) (p := 0) (q := 0) (e := ⟨#[]⟩) 25
      rw [hz1] at n0 n1 n2
      have hA2 : Below W1.heap.size W1 (W1.alloc (.cells #[.int .i64 0, .int .i64 0, .string ⟨#[]⟩] 25)) := (Below.refl _ _).alloc (Nat.le_refl _) _
      replace c0 := bkeep hA2 c0
      replace c1 := bkeep hA2 c1
      replace c2 := bkeep hA2 c2
      replace c3 := bkeep hA2 c3
      replace c4 := bkeep hA2 c4
      replace c5 := bkeep hA2 c5
      replace c6 := bkeep hA2 c6
      replace c7 := bkeep hA2 c7
      replace c8 := bkeep hA2 c8
      replace c9 := bkeep hA2 c9
      have HB := bt hA1 hA2
      clear hA1 hA2
      generalize W1.alloc (.cells #[.int .i64 0, .int .i64 0, .string ⟨#[]⟩] 25) = W2 at *
      go_wp2_with (first | (go_at_call 33; (with_reducible refine (rright_any _ _ _).mono ?_); rintro e' w5 ⟨rfl, hb5⟩; rw [h1]; replace c0 := bkeep hb5 c0; replace c1 := bkeep hb5 c1; replace c2 := bkeep hb5 c2; replace c3 := bkeep hb5 c3; replace c4 := bkeep hb5 c4; replace c5 := bkeep hb5 c5; replace c6 := bkeep hb5 c6; replace c7 := bkeep hb5 c7; replace c8 := bkeep hb5 c8; replace c9 := bkeep hb5 c9; replace n0 := bkeep hb5 n0; replace n1 := bkeep hb5 n1; replace n2 := bkeep hb5 n2; replace HB := bt HB hb5; clear hb5) | (go_at_call 55; (with_reducible refine (rSlotCheck_any _ _ _ _ _ _ _).mono ?_); rintro e' w5 ⟨rfl, hb5⟩; rw [hE]; replace c0 := bkeep hb5 c0; replace c1 := bkeep hb5 c1; replace c2 := bkeep hb5 c2; replace c3 := bkeep hb5 c3; replace c4 := bkeep hb5 c4; replace c5 := bkeep hb5 c5; replace c6 := bkeep hb5 c6; replace c7 := bkeep hb5 c7; replace c8 := bkeep hb5 c8; replace c9 := bkeep hb5 c9; replace n0 := bkeep hb5 n0; replace n1 := bkeep hb5 n1; replace n2 := bkeep hb5 n2; replace HB := bt HB hb5; clear hb5))
      go_ret
      exact ⟨congrArg (fun x => Ending.returned (.int .i64 x)) HF.out.symm, HB⟩
  have hk0 : (k == 0) = false := beq_eq_false_iff_ne.2 h0
  rw [if_neg h0] at HP
  by_cases h1' : k = 1
  case neg =>
    have hk1 : (k == 1) = false := beq_eq_false_iff_ne.2 h1'
    rw [if_neg h1'] at HP
    rw [HP]
    clear HP h0 h1'
    go_enter Try.func34, Try.ntmps34
    go_wp2
    go_ret
    exact ⟨rfl, ((Below.refl _ _).alloc (Nat.le_refl _) _).alloc (by simp) _⟩
  have hk1 : (k == 1) = true := beq_iff_eq.2 h1'
  rw [if_pos h1'] at HP
  clear h0 h1'
  have HQ : clashE ⟨k, a, b, d, ⟨p, q, e⟩, ⟨r, s, f⟩⟩ = if pairE ⟨p, q, e⟩ ⟨r, s, f⟩ = 0 then (if a = p ∧ b = s ∧ d.size = 0 then 0 else 4) else pairE ⟨p, q, e⟩ ⟨r, s, f⟩ := rfl
  rw [HQ] at HP
  clear HQ
  obtain ⟨E, hE⟩ : ∃ z, pairE ⟨p, q, e⟩ ⟨r, s, f⟩ = z := ⟨_, rfl⟩
  rw [hE] at HP
  by_cases hE0 : E = 0
  case neg =>
    have HF : Hid (chkE ⟨k, a, b, d, ⟨p, q, e⟩, ⟨r, s, f⟩⟩ = E) := by show _ = _; rw [HP]; exact if_neg hE0
    have hne : (E == 0) = false := beq_eq_false_iff_ne.2 hE0
    clear HP hE0
    obtain ⟨c0, c1, c2, c3, c4, c5, c6, c7, c8, c9⟩ := held10 (w := w) (k := k) (a := a) (b := b) (d := d) (p := p) (q := q) (e := e) (r := r) (s := s) (f := f) 27
    have hA1 : Below w.heap.size w (w.alloc (.cells #[.int .i64 k, .int .i64 a, .int .i64 b, .string d, .int .i64 p, .int .i64 q, .string e, .int .i64 r, .int .i64 s, .string f] 27)) := (Below.refl _ _).alloc (Nat.le_refl _) _
    have hz1 : (w.alloc (.cells #[.int .i64 k, .int .i64 a, .int .i64 b, .string d, .int .i64 p, .int .i64 q, .string e, .int .i64 r, .int .i64 s, .string f] 27)).heap.size = w.heap.size + 1 := by simp
    go_enter Try.func34, Try.ntmps34
    go_wp2_with fail
    generalize w.alloc (.cells #[.int .i64 k, .int .i64 a, .int .i64 b, .string d, .int .i64 p, .int .i64 q, .string e, .int .i64 r, .int .i64 s, .string f] 27) = W1 at *
    obtain ⟨n0, n1, n2⟩ := held3 (w := W1) (p := 0) (q := 0) (e := ⟨#[]⟩) 25
    rw [hz1] at n0 n1 n2
    have hA2 : Below W1.heap.size W1 (W1.alloc (.cells #[.int .i64 0, .int .i64 0, .string ⟨#[]⟩] 25)) := (Below.refl _ _).alloc (Nat.le_refl _) _
    replace c0 := bkeep hA2 c0
    replace c1 := bkeep hA2 c1
    replace c2 := bkeep hA2 c2
    replace c3 := bkeep hA2 c3
    replace c4 := bkeep hA2 c4
    replace c5 := bkeep hA2 c5
    replace c6 := bkeep hA2 c6
    replace c7 := bkeep hA2 c7
    replace c8 := bkeep hA2 c8
    replace c9 := bkeep hA2 c9
    have HB := bt hA1 hA2
    clear hA1 hA2
    generalize W1.alloc (.cells #[.int .i64 0, .int .i64 0, .string ⟨#[]⟩] 25) = W2 at *
    go_wp2_with (first | (go_at_call 33; (with_reducible refine (rright_any _ _ _).mono ?_); rintro e' w5 ⟨rfl, hb5⟩; rw [h1]; replace c0 := bkeep hb5 c0; replace c1 := bkeep hb5 c1; replace c2 := bkeep hb5 c2; replace c3 := bkeep hb5 c3; replace c4 := bkeep hb5 c4; replace c5 := bkeep hb5 c5; replace c6 := bkeep hb5 c6; replace c7 := bkeep hb5 c7; replace c8 := bkeep hb5 c8; replace c9 := bkeep hb5 c9; replace n0 := bkeep hb5 n0; replace n1 := bkeep hb5 n1; replace n2 := bkeep hb5 n2; replace HB := bt HB hb5; clear hb5) | (go_at_call 55; (with_reducible refine (rSlotCheck_any _ _ _ _ _ _ _).mono ?_); rintro e' w5 ⟨rfl, hb5⟩; rw [hE]; replace c0 := bkeep hb5 c0; replace c1 := bkeep hb5 c1; replace c2 := bkeep hb5 c2; replace c3 := bkeep hb5 c3; replace c4 := bkeep hb5 c4; replace c5 := bkeep hb5 c5; replace c6 := bkeep hb5 c6; replace c7 := bkeep hb5 c7; replace c8 := bkeep hb5 c8; replace c9 := bkeep hb5 c9; replace n0 := bkeep hb5 n0; replace n1 := bkeep hb5 n1; replace n2 := bkeep hb5 n2; replace HB := bt HB hb5; clear hb5))
    go_ret
    exact ⟨congrArg (fun x => Ending.returned (.int .i64 x)) HF.out.symm, HB⟩
  subst hE0
  rw [if_pos rfl] at HP
  by_cases ha : a = p
  case neg =>
    have HF : Hid (chkE ⟨k, a, b, d, ⟨p, q, e⟩, ⟨r, s, f⟩⟩ = 4) := by show _ = _; rw [HP]; exact if_neg (fun h => ha h.1)
    have hab : (a != p) = true := bne_iff_ne.2 ha
    clear HP ha
    obtain ⟨c0, c1, c2, c3, c4, c5, c6, c7, c8, c9⟩ := held10 (w := w) (k := k) (a := a) (b := b) (d := d) (p := p) (q := q) (e := e) (r := r) (s := s) (f := f) 27
    have hA1 : Below w.heap.size w (w.alloc (.cells #[.int .i64 k, .int .i64 a, .int .i64 b, .string d, .int .i64 p, .int .i64 q, .string e, .int .i64 r, .int .i64 s, .string f] 27)) := (Below.refl _ _).alloc (Nat.le_refl _) _
    have hz1 : (w.alloc (.cells #[.int .i64 k, .int .i64 a, .int .i64 b, .string d, .int .i64 p, .int .i64 q, .string e, .int .i64 r, .int .i64 s, .string f] 27)).heap.size = w.heap.size + 1 := by simp
    go_enter Try.func34, Try.ntmps34
    go_wp2_with fail
    generalize w.alloc (.cells #[.int .i64 k, .int .i64 a, .int .i64 b, .string d, .int .i64 p, .int .i64 q, .string e, .int .i64 r, .int .i64 s, .string f] 27) = W1 at *
    obtain ⟨n0, n1, n2⟩ := held3 (w := W1) (p := 0) (q := 0) (e := ⟨#[]⟩) 25
    rw [hz1] at n0 n1 n2
    have hA2 : Below W1.heap.size W1 (W1.alloc (.cells #[.int .i64 0, .int .i64 0, .string ⟨#[]⟩] 25)) := (Below.refl _ _).alloc (Nat.le_refl _) _
    replace c0 := bkeep hA2 c0
    replace c1 := bkeep hA2 c1
    replace c2 := bkeep hA2 c2
    replace c3 := bkeep hA2 c3
    replace c4 := bkeep hA2 c4
    replace c5 := bkeep hA2 c5
    replace c6 := bkeep hA2 c6
    replace c7 := bkeep hA2 c7
    replace c8 := bkeep hA2 c8
    replace c9 := bkeep hA2 c9
    have HB := bt hA1 hA2
    clear hA1 hA2
    generalize W1.alloc (.cells #[.int .i64 0, .int .i64 0, .string ⟨#[]⟩] 25) = W2 at *
    go_wp2_with (first | (go_at_call 33; (with_reducible refine (rright_any _ _ _).mono ?_); rintro e' w5 ⟨rfl, hb5⟩; rw [h1]; replace c0 := bkeep hb5 c0; replace c1 := bkeep hb5 c1; replace c2 := bkeep hb5 c2; replace c3 := bkeep hb5 c3; replace c4 := bkeep hb5 c4; replace c5 := bkeep hb5 c5; replace c6 := bkeep hb5 c6; replace c7 := bkeep hb5 c7; replace c8 := bkeep hb5 c8; replace c9 := bkeep hb5 c9; replace n0 := bkeep hb5 n0; replace n1 := bkeep hb5 n1; replace n2 := bkeep hb5 n2; replace HB := bt HB hb5; clear hb5) | (go_at_call 55; (with_reducible refine (rSlotCheck_any _ _ _ _ _ _ _).mono ?_); rintro e' w5 ⟨rfl, hb5⟩; rw [hE]; replace c0 := bkeep hb5 c0; replace c1 := bkeep hb5 c1; replace c2 := bkeep hb5 c2; replace c3 := bkeep hb5 c3; replace c4 := bkeep hb5 c4; replace c5 := bkeep hb5 c5; replace c6 := bkeep hb5 c6; replace c7 := bkeep hb5 c7; replace c8 := bkeep hb5 c8; replace c9 := bkeep hb5 c9; replace n0 := bkeep hb5 n0; replace n1 := bkeep hb5 n1; replace n2 := bkeep hb5 n2; replace HB := bt HB hb5; clear hb5))
    go_ret
    exact ⟨congrArg (fun x => Ending.returned (.int .i64 x)) HF.out.symm, HB⟩
  have hab : (a != p) = false := bne_eq_false_iff_eq.2 ha
  by_cases hb : b = s
  case neg =>
    have HF : Hid (chkE ⟨k, a, b, d, ⟨p, q, e⟩, ⟨r, s, f⟩⟩ = 4) := by show _ = _; rw [HP]; exact if_neg (fun h => hb h.2.1)
    have hbb : (b != s) = true := bne_iff_ne.2 hb
    clear HP ha hb
    obtain ⟨c0, c1, c2, c3, c4, c5, c6, c7, c8, c9⟩ := held10 (w := w) (k := k) (a := a) (b := b) (d := d) (p := p) (q := q) (e := e) (r := r) (s := s) (f := f) 27
    have hA1 : Below w.heap.size w (w.alloc (.cells #[.int .i64 k, .int .i64 a, .int .i64 b, .string d, .int .i64 p, .int .i64 q, .string e, .int .i64 r, .int .i64 s, .string f] 27)) := (Below.refl _ _).alloc (Nat.le_refl _) _
    have hz1 : (w.alloc (.cells #[.int .i64 k, .int .i64 a, .int .i64 b, .string d, .int .i64 p, .int .i64 q, .string e, .int .i64 r, .int .i64 s, .string f] 27)).heap.size = w.heap.size + 1 := by simp
    go_enter Try.func34, Try.ntmps34
    go_wp2_with fail
    generalize w.alloc (.cells #[.int .i64 k, .int .i64 a, .int .i64 b, .string d, .int .i64 p, .int .i64 q, .string e, .int .i64 r, .int .i64 s, .string f] 27) = W1 at *
    obtain ⟨n0, n1, n2⟩ := held3 (w := W1) (p := 0) (q := 0) (e := ⟨#[]⟩) 25
    rw [hz1] at n0 n1 n2
    have hA2 : Below W1.heap.size W1 (W1.alloc (.cells #[.int .i64 0, .int .i64 0, .string ⟨#[]⟩] 25)) := (Below.refl _ _).alloc (Nat.le_refl _) _
    replace c0 := bkeep hA2 c0
    replace c1 := bkeep hA2 c1
    replace c2 := bkeep hA2 c2
    replace c3 := bkeep hA2 c3
    replace c4 := bkeep hA2 c4
    replace c5 := bkeep hA2 c5
    replace c6 := bkeep hA2 c6
    replace c7 := bkeep hA2 c7
    replace c8 := bkeep hA2 c8
    replace c9 := bkeep hA2 c9
    have HB := bt hA1 hA2
    clear hA1 hA2
    generalize W1.alloc (.cells #[.int .i64 0, .int .i64 0, .string ⟨#[]⟩] 25) = W2 at *
    go_wp2_with (first | (go_at_call 33; (with_reducible refine (rright_any _ _ _).mono ?_); rintro e' w5 ⟨rfl, hb5⟩; rw [h1]; replace c0 := bkeep hb5 c0; replace c1 := bkeep hb5 c1; replace c2 := bkeep hb5 c2; replace c3 := bkeep hb5 c3; replace c4 := bkeep hb5 c4; replace c5 := bkeep hb5 c5; replace c6 := bkeep hb5 c6; replace c7 := bkeep hb5 c7; replace c8 := bkeep hb5 c8; replace c9 := bkeep hb5 c9; replace n0 := bkeep hb5 n0; replace n1 := bkeep hb5 n1; replace n2 := bkeep hb5 n2; replace HB := bt HB hb5; clear hb5) | (go_at_call 55; (with_reducible refine (rSlotCheck_any _ _ _ _ _ _ _).mono ?_); rintro e' w5 ⟨rfl, hb5⟩; rw [hE]; replace c0 := bkeep hb5 c0; replace c1 := bkeep hb5 c1; replace c2 := bkeep hb5 c2; replace c3 := bkeep hb5 c3; replace c4 := bkeep hb5 c4; replace c5 := bkeep hb5 c5; replace c6 := bkeep hb5 c6; replace c7 := bkeep hb5 c7; replace c8 := bkeep hb5 c8; replace c9 := bkeep hb5 c9; replace n0 := bkeep hb5 n0; replace n1 := bkeep hb5 n1; replace n2 := bkeep hb5 n2; replace HB := bt HB hb5; clear hb5))
    go_ret
    exact ⟨congrArg (fun x => Ending.returned (.int .i64 x)) HF.out.symm, HB⟩
  have hbb : (b != s) = false := bne_eq_false_iff_eq.2 hb
  have hem := empty_size d
  by_cases hd : d.size = 0
  · have HF : Hid (chkE ⟨k, a, b, d, ⟨p, q, e⟩, ⟨r, s, f⟩⟩ = 0) := by show _ = _; rw [HP]; exact if_pos ⟨ha, hb, hd⟩
    rw [decide_eq_true hd] at hem
    clear HP ha hb hd
    obtain ⟨c0, c1, c2, c3, c4, c5, c6, c7, c8, c9⟩ := held10 (w := w) (k := k) (a := a) (b := b) (d := d) (p := p) (q := q) (e := e) (r := r) (s := s) (f := f) 27
    have hA1 : Below w.heap.size w (w.alloc (.cells #[.int .i64 k, .int .i64 a, .int .i64 b, .string d, .int .i64 p, .int .i64 q, .string e, .int .i64 r, .int .i64 s, .string f] 27)) := (Below.refl _ _).alloc (Nat.le_refl _) _
    have hz1 : (w.alloc (.cells #[.int .i64 k, .int .i64 a, .int .i64 b, .string d, .int .i64 p, .int .i64 q, .string e, .int .i64 r, .int .i64 s, .string f] 27)).heap.size = w.heap.size + 1 := by simp
    go_enter Try.func34, Try.ntmps34
    go_wp2_with fail
    generalize w.alloc (.cells #[.int .i64 k, .int .i64 a, .int .i64 b, .string d, .int .i64 p, .int .i64 q, .string e, .int .i64 r, .int .i64 s, .string f] 27) = W1 at *
    obtain ⟨n0, n1, n2⟩ := held3 (w := W1) (p := 0) (q := 0) (e := ⟨#[]⟩) 25
    rw [hz1] at n0 n1 n2
    have hA2 : Below W1.heap.size W1 (W1.alloc (.cells #[.int .i64 0, .int .i64 0, .string ⟨#[]⟩] 25)) := (Below.refl _ _).alloc (Nat.le_refl _) _
    replace c0 := bkeep hA2 c0
    replace c1 := bkeep hA2 c1
    replace c2 := bkeep hA2 c2
    replace c3 := bkeep hA2 c3
    replace c4 := bkeep hA2 c4
    replace c5 := bkeep hA2 c5
    replace c6 := bkeep hA2 c6
    replace c7 := bkeep hA2 c7
    replace c8 := bkeep hA2 c8
    replace c9 := bkeep hA2 c9
    have HB := bt hA1 hA2
    clear hA1 hA2
    generalize W1.alloc (.cells #[.int .i64 0, .int .i64 0, .string ⟨#[]⟩] 25) = W2 at *
    go_wp2_with (first | (go_at_call 33; (with_reducible refine (rright_any _ _ _).mono ?_); rintro e' w5 ⟨rfl, hb5⟩; rw [h1]; replace c0 := bkeep hb5 c0; replace c1 := bkeep hb5 c1; replace c2 := bkeep hb5 c2; replace c3 := bkeep hb5 c3; replace c4 := bkeep hb5 c4; replace c5 := bkeep hb5 c5; replace c6 := bkeep hb5 c6; replace c7 := bkeep hb5 c7; replace c8 := bkeep hb5 c8; replace c9 := bkeep hb5 c9; replace n0 := bkeep hb5 n0; replace n1 := bkeep hb5 n1; replace n2 := bkeep hb5 n2; replace HB := bt HB hb5; clear hb5) | (go_at_call 55; (with_reducible refine (rSlotCheck_any _ _ _ _ _ _ _).mono ?_); rintro e' w5 ⟨rfl, hb5⟩; rw [hE]; replace c0 := bkeep hb5 c0; replace c1 := bkeep hb5 c1; replace c2 := bkeep hb5 c2; replace c3 := bkeep hb5 c3; replace c4 := bkeep hb5 c4; replace c5 := bkeep hb5 c5; replace c6 := bkeep hb5 c6; replace c7 := bkeep hb5 c7; replace c8 := bkeep hb5 c8; replace c9 := bkeep hb5 c9; replace n0 := bkeep hb5 n0; replace n1 := bkeep hb5 n1; replace n2 := bkeep hb5 n2; replace HB := bt HB hb5; clear hb5))
    go_ret
    exact ⟨congrArg (fun x => Ending.returned (.int .i64 x)) HF.out.symm, HB⟩
  · have HF : Hid (chkE ⟨k, a, b, d, ⟨p, q, e⟩, ⟨r, s, f⟩⟩ = 4) := by show _ = _; rw [HP]; exact if_neg (fun h => hd h.2.2)
    rw [decide_eq_false hd] at hem
    clear HP ha hb hd
    obtain ⟨c0, c1, c2, c3, c4, c5, c6, c7, c8, c9⟩ := held10 (w := w) (k := k) (a := a) (b := b) (d := d) (p := p) (q := q) (e := e) (r := r) (s := s) (f := f) 27
    have hA1 : Below w.heap.size w (w.alloc (.cells #[.int .i64 k, .int .i64 a, .int .i64 b, .string d, .int .i64 p, .int .i64 q, .string e, .int .i64 r, .int .i64 s, .string f] 27)) := (Below.refl _ _).alloc (Nat.le_refl _) _
    have hz1 : (w.alloc (.cells #[.int .i64 k, .int .i64 a, .int .i64 b, .string d, .int .i64 p, .int .i64 q, .string e, .int .i64 r, .int .i64 s, .string f] 27)).heap.size = w.heap.size + 1 := by simp
    go_enter Try.func34, Try.ntmps34
    go_wp2_with fail
    generalize w.alloc (.cells #[.int .i64 k, .int .i64 a, .int .i64 b, .string d, .int .i64 p, .int .i64 q, .string e, .int .i64 r, .int .i64 s, .string f] 27) = W1 at *
    obtain ⟨n0, n1, n2⟩ := held3 (w := W1) (p := 0) (q := 0) (e := ⟨#[]⟩) 25
    rw [hz1] at n0 n1 n2
    have hA2 : Below W1.heap.size W1 (W1.alloc (.cells #[.int .i64 0, .int .i64 0, .string ⟨#[]⟩] 25)) := (Below.refl _ _).alloc (Nat.le_refl _) _
    replace c0 := bkeep hA2 c0
    replace c1 := bkeep hA2 c1
    replace c2 := bkeep hA2 c2
    replace c3 := bkeep hA2 c3
    replace c4 := bkeep hA2 c4
    replace c5 := bkeep hA2 c5
    replace c6 := bkeep hA2 c6
    replace c7 := bkeep hA2 c7
    replace c8 := bkeep hA2 c8
    replace c9 := bkeep hA2 c9
    have HB := bt hA1 hA2
    clear hA1 hA2
    generalize W1.alloc (.cells #[.int .i64 0, .int .i64 0, .string ⟨#[]⟩] 25) = W2 at *
    go_wp2_with (first | (go_at_call 33; (with_reducible refine (rright_any _ _ _).mono ?_); rintro e' w5 ⟨rfl, hb5⟩; rw [h1]; replace c0 := bkeep hb5 c0; replace c1 := bkeep hb5 c1; replace c2 := bkeep hb5 c2; replace c3 := bkeep hb5 c3; replace c4 := bkeep hb5 c4; replace c5 := bkeep hb5 c5; replace c6 := bkeep hb5 c6; replace c7 := bkeep hb5 c7; replace c8 := bkeep hb5 c8; replace c9 := bkeep hb5 c9; replace n0 := bkeep hb5 n0; replace n1 := bkeep hb5 n1; replace n2 := bkeep hb5 n2; replace HB := bt HB hb5; clear hb5) | (go_at_call 55; (with_reducible refine (rSlotCheck_any _ _ _ _ _ _ _).mono ?_); rintro e' w5 ⟨rfl, hb5⟩; rw [hE]; replace c0 := bkeep hb5 c0; replace c1 := bkeep hb5 c1; replace c2 := bkeep hb5 c2; replace c3 := bkeep hb5 c3; replace c4 := bkeep hb5 c4; replace c5 := bkeep hb5 c5; replace c6 := bkeep hb5 c6; replace c7 := bkeep hb5 c7; replace c8 := bkeep hb5 c8; replace c9 := bkeep hb5 c9; replace n0 := bkeep hb5 n0; replace n1 := bkeep hb5 n1; replace n2 := bkeep hb5 n2; replace HB := bt HB hb5; clear hb5))
    go_ret
    exact ⟨congrArg (fun x => Ending.returned (.int .i64 x)) HF.out.symm, HB⟩
end Go.Proofs.Ytemfdmbjlmiopaa
