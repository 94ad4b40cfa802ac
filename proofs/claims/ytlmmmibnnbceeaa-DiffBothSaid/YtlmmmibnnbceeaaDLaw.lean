/-
  Where any two texts differ (chapter 41): the law.
-/
import Derived.Test.YtlmmmibnnbceeaaMerge4
namespace Go.Proofs.Ytlmmmibnnbceeaa
open Go.RowKit
set_option linter.unusedVariables false
set_option linter.unusedSimpArgs false

theorem rs_gap (p : Nat → Bool) : ∀ n k x y, (rs p n)[k]? = some x → (rs p n)[k + 1]? = some y → x.2 < y.1 := by
  intro n
  induction n with
  | zero => intro k x y h; simp [rs] at h
  | succ n ih =>
    cases hp : p n with
    | false => rw [rs_no hp]; exact ih
    | true =>
      by_cases hq : 0 < n ∧ p (n - 1) = true
      · obtain ⟨X, k0, hX⟩ := rs_last p n hq.1 hq.2
        have e : rs p (n + 1) = X ++ [(k0, n + 1)] := by
          show (if p n = true then (if 0 < n ∧ p (n - 1) = true then _ else _) else _) = _
          rw [if_pos hp, if_pos hq, hX]; simp
        rw [e]
        intro k x y hx hy
        have hk : k + 1 < X.length + 1 := by
          have := (List.getElem?_eq_some_iff.1 hy).1
          simpa using this
        rw [List.getElem?_append_left (by omega)] at hx
        by_cases hk2 : k + 1 < X.length
        · rw [List.getElem?_append_left hk2] at hy
          exact ih k x y (by rw [hX, List.getElem?_append_left (by omega)]; exact hx) (by rw [hX, List.getElem?_append_left hk2]; exact hy)
        · rw [List.getElem?_append_right (by omega), show k + 1 - X.length = 0 by omega] at hy
          simp at hy; subst hy
          have := ih k x (k0, n) (by rw [hX, List.getElem?_append_left (by omega)]; exact hx) (by rw [hX, List.getElem?_append_right (by omega), show k + 1 - X.length = 0 by omega]; rfl)
          exact this
      · have e : rs p (n + 1) = rs p n ++ [(n, n + 1)] := by
          show (if p n = true then (if 0 < n ∧ p (n - 1) = true then _ else _) else _) = _
          rw [if_pos hp, if_neg hq]
        rw [e]
        intro k x y hx hy
        have hk : k + 1 < (rs p n).length + 1 := by
          have := (List.getElem?_eq_some_iff.1 hy).1
          simpa using this
        rw [List.getElem?_append_left (by omega)] at hx
        by_cases hk2 : k + 1 < (rs p n).length
        · rw [List.getElem?_append_left hk2] at hy
          exact ih k x y hx hy
        · rw [List.getElem?_append_right (by omega), show k + 1 - (rs p n).length = 0 by omega] at hy
          simp at hy; subst hy
          obtain ⟨h1, h2, h3⟩ := rs_mem p n x (List.mem_of_getElem? hx)
          show x.2 < n
          by_cases e2 : x.2 = n
          · exact absurd ⟨by omega, h3 (n - 1) (by omega) (by omega)⟩ hq
          · omega
theorem rs_nil (p : Nat → Bool) (n : Nat) : rs p n = [] ↔ ∀ j, j < n → p j = false := by
  constructor
  · intro h j hj
    have := inR_rs p n j
    rw [h, decide_eq_true hj, Bool.true_and] at this
    exact this.symm
  · intro h
    cases hr : rs p n with
    | nil => rfl
    | cons x l =>
      obtain ⟨h1, h2, h3⟩ := rs_mem p n x (by rw [hr]; simp)
      have := h3 x.1 (Nat.le_refl _) h1
      rw [h x.1 (by omega)] at this
      cases this
theorem gd_all {a b : ByteArray} (hs : a.size = b.size) (h : ∀ j, j < a.size → gd a j = gd b j) : a = b := by
  apply ByteArray.ext
  apply Array.ext hs
  intro j h1 h2
  have e1 := gd_eq (d := a) (k := j) h1
  have e2 := gd_eq (d := b) (k := j) h2
  apply UInt8.toNat_inj.1
  exact (e1.trans (h j h1)).trans e2.symm
theorem pS_nil (a b : ByteArray) : rs (pS a b) (max a.size b.size) = [] ↔ a = b := by
  rw [rs_nil]
  constructor
  · intro h
    have hs : a.size = b.size := by
      by_cases e : a.size = b.size
      · exact e
      · have := h (min a.size b.size) (by omega)
        unfold pS at this
        rw [decide_eq_true (Nat.le_refl _)] at this
        cases this
    refine gd_all hs fun j hj => ?_
    have := h j (by omega)
    unfold pS at this
    rw [decide_eq_false (by omega), Bool.false_or] at this
    simpa using this
  · rintro rfl j hj
    unfold pS
    rw [decide_eq_false (by omega)]
    simp
theorem bsn {x y : ByteArray} (h : x ≠ y) : (x.toList == y.toList) = false := beq_eq_false_iff_ne.2 fun e => h (ba_ext e)
theorem rspans_of {a b : ByteArray} {l : List (Nat × Nat)} (hl : rs (pS a b) (max a.size b.size) = l) (w : World) (ha : a.size ≤ 1500) (hb : b.size ≤ 1500) :
    Calls Try.prog 11 #[.string a, .string b] w fun e w' => (∃ v, e = .returned v ∧ SpAt w' v l) ∧ Below w.heap.size w w' := by
  refine (rspans_any a b w ha hb).mono ?_
  rintro e w' ⟨⟨v, B, rfl, hB, hr⟩, hb⟩
  exact ⟨⟨v, rfl, hl ▸ hr.at⟩, hb⟩
theorem long2 (w : World) (T : TypeId) (x y : ByteArray) : Calls Try.prog 8 #[.slice (some ⟨w.heap.size, 0, none⟩) 2 2] (w.alloc (.cells #[.string x, .string y] T)) fun e w' => e = .returned (.bool ([x, y].any fun t => decide (1500 < t.size))) ∧ Below w.heap.size w w' := by
  refine (long_any _ w.heap.size 2 [x, y] (by simp) (row2 w T x y)).mono ?_
  rintro e w' ⟨rfl, hb⟩
  exact ⟨rfl, bt (alb' w _) hb⟩
set_option maxHeartbeats 3200000 in
theorem walk_DiffSpans (a : ByteArray) (ua : a.size ≤ 140737488351232) (b : ByteArray) (ub : b.size ≤ 140737488351232) {w : World} : Calls Try.prog 3 #[.string a, .string b] w fun e w' => e = .returned (.bool true) ∧ Below w.heap.size w w' := by
  clear ua ub
  have hlg := Lib.hid (fun w => long2 w 9 a b)
  cases hd : [a, b].any fun t => decide (1500 < t.size) with
  | true =>
    rw [hd] at hlg
    go_enter Try.func3, Try.ntmps3
    go_wp2_with (first | (go_at_call 7; (with_reducible refine (works_any _).mono ?_); rintro e w1 ⟨rfl, hb1⟩) | (go_at_call 8; (with_reducible refine (hlg.out _).mono ?_); rintro e w2 ⟨rfl, hb2⟩))
    go_ret
    exact ⟨rfl, bt hb1 hb2⟩
  | false =>
    rw [hd] at hlg
    have ha : a.size ≤ 1500 := by simp at hd; omega
    have hb : b.size ≤ 1500 := by simp at hd; omega
    have hlen := rs_len (pS a b) (max a.size b.size)
    have hgap := Lib.hid (rs_gap (pS a b) (max a.size b.size))
    have hmem := Lib.hid (rs_mem (pS a b) (max a.size b.size))
    have hnil := Lib.hid (pS_nil a b)
    have hS := Lib.hid (fun w => spans_of (a := a) (b := b) rfl w ha hb)
    have hR := Lib.hid (fun w => rspans_of (a := a) (b := b) rfl w ha hb)
    generalize hL : rs (pS a b) (max a.size b.size) = L at *
    have nmx : (if a.size < b.size then (b.size : Int) else (a.size : Int)) = ((max a.size b.size : Nat) : Int) := by split <;> omega
    have hmx : (if (a.size : Int) < (b.size : Int) then (b.size : Int) else (a.size : Int)) = ((max a.size b.size : Nat) : Int) := by split <;> omega
    clear hL hd
    go_enter Try.func3, Try.ntmps3
    go_wp2_with (first | (go_at_call 7; (with_reducible refine (works_any _).mono ?_); rintro e w1 ⟨rfl, hb1⟩) | (go_at_call 8; (with_reducible refine (hlg.out _).mono ?_); rintro e w2 ⟨rfl, hb2⟩) | (go_at_call 9; (with_reducible refine (hS.out _).mono ?_); rintro e w3 ⟨⟨v, rfl, hv⟩, hb3⟩; obtain ⟨av, c, rfl⟩ := sp_len hv))
    have hb0 := bt (bt hb1 hb2) hb3
    have hv := Lib.hid hv
    go_loopw [6] (fun i wr => ∃ k : Nat, k ≤ L.length ∧ i = .int .i64 k ∧ Hid (Below w3.heap.size w3 wr)) (fun i _ => L.length - (intOf i).toNat)
    case atStart => exact ⟨0, Nat.zero_le _, rfl, Below.refl _ _⟩
    case round =>
      obtain ⟨k, hk, rfl, hB⟩ := hrel
      by_cases hlt : k < L.length
      · have hd : decide ((k : Int) < (L.length : Int)) = true := decide_eq_true (by omega)
        obtain ⟨⟨x1, x2⟩, hx⟩ : ∃ x, L[k]? = some x := ⟨L[k], List.getElem?_eq_getElem hlt⟩
        obtain ⟨av', c', he, hcell⟩ := hv.out
        obtain ⟨rfl, rfl⟩ : av' = av ∧ c' = c := by cases he; exact ⟨rfl, rfl⟩
        obtain ⟨g, rfl, p1, p2⟩ := hcell k _ hx
        have p1 := bkeep hB.out p1
        have p2 := bkeep hB.out p2
        obtain ⟨m1, m2, _⟩ := hmem.out _ (List.mem_of_getElem? hx)
        simp only at m1 m2
        have i1 : (0 : Int) ≤ (k : Int) := by omega
        have i2 : (k : Int) < (L.length : Int) := by omega
        have d1 : decide ((x1 : Int) < 0) = false := decide_eq_false (by omega)
        have d2 : decide ((x2 : Int) ≤ (x1 : Int)) = false := decide_eq_false (by omega)
        have d3 : decide (((max a.size b.size : Nat) : Int) < (x2 : Int)) = false := decide_eq_false (by omega)
        have n2 : decide (x2 ≤ x1) = false := decide_eq_false (by omega)
        have n3 : decide (max a.size b.size < x2) = false := decide_eq_false (by omega)
        have hfin := Lib.hid (fun m => bdraws hB.out m)
        by_cases h0 : 0 < k
        · obtain ⟨⟨y1, y2⟩, hy⟩ : ∃ x, L[k - 1]? = some x := ⟨L[k - 1], List.getElem?_eq_getElem (by omega)⟩
          obtain ⟨g', he', q1, q2⟩ := hcell (k - 1) _ hy
          obtain rfl : g' = g := by cases he'; rfl
          have q1 := bkeep hB.out q1
          have q2 := bkeep hB.out q2
          have hg := hgap.out (k - 1) _ _ hy (by rw [show k - 1 + 1 = k by omega]; exact hx)
          simp only at hg
          have d4 : decide ((0 : Int) < (k : Int)) = true := decide_eq_true (by omega)
          have d5 : decide ((x1 : Int) ≤ (y2 : Int)) = false := decide_eq_false (by omega)
          have n4 : decide (0 < k) = true := decide_eq_true (by omega)
          have n5 : decide (x1 ≤ y2) = false := decide_eq_false (by omega)
          have hq : IntKind.wrap .i64 ((k : Int) - 1) = ((k - 1 : Nat) : Int) := by rw [IntWalk.i64_in _ (by omega)]; omega
          have i3 : (0 : Int) ≤ ((k - 1 : Nat) : Int) := by omega
          have i4 : ((k - 1 : Nat) : Int) < (L.length : Int) := by omega
          clear hx hy hcell
          go_wp2_with fail
          go_quiet (fail)
          go_wp2
          exact ⟨⟨k + 1, by omega, by go_num, hfin.out _⟩, by simp [intOf]; omega⟩
        · have d4 : decide ((0 : Int) < (k : Int)) = false := decide_eq_false (by omega)
          have n4 : decide (0 < k) = false := decide_eq_false (by omega)
          clear hx hcell
          go_wp2_with fail
          go_quiet (fail)
          go_wp2
          exact ⟨⟨k + 1, by omega, by go_num, hfin.out _⟩, by simp [intOf]; omega⟩
      · have hd : decide ((k : Int) < (L.length : Int)) = false := decide_eq_false (by omega)
        have hlen2 : L.length ≤ 1000001 := by omega
        by_cases hab : a = b
        · have hL0 : L = [] := hnil.out.2 hab
          subst hab
          subst hL0
          have e1 := bse a
          have hv0 : Hid (SpAt w3 (.slice av 0 c) []) := hv.out
          go_wp2_with (first | (go_at_call 11; (with_reducible refine (hR.out _).mono ?_); rintro e w4 ⟨⟨v4, rfl, hv4⟩, hb4⟩) | (go_at_call 10; (with_reducible refine (same_eq _ _ [] _ (hv0.out.keep (bt hB.out hb4)) hv4 (by simp)).mono ?_); rintro e w5 ⟨rfl, hb5⟩))
          go_ret
          exact ⟨rfl, bt hb0 (bt (bt hB.out hb4) hb5)⟩
        · have hne : ¬ L.length = 0 := fun h => hab (hnil.out.1 (List.length_eq_zero_iff.1 h))
          have hne2 : ¬ (L.length : Int) = 0 := by omega
          have hne3 : ¬ L = [] := fun h => hab (hnil.out.1 h)
          have e1 := bsn hab
          have e2 : ((L.length : Int) == 0) = false := beq_eq_false_iff_ne.2 hne2
          go_wp2_with (first | (go_at_call 11; (with_reducible refine (hR.out _).mono ?_); rintro e w4 ⟨⟨v4, rfl, hv4⟩, hb4⟩) | (go_at_call 10; (with_reducible refine (same_eq _ _ _ _ (hv.out.keep (bt hB.out hb4)) hv4 hlen2).mono ?_); rintro e w5 ⟨rfl, hb5⟩))
          go_ret
          exact ⟨rfl, bt hb0 (bt (bt hB.out hb4) hb5)⟩
end Go.Proofs.Ytlmmmibnnbceeaa
