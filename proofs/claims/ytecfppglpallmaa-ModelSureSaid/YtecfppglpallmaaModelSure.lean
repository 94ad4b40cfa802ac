/-
  Just one (chapter 36): the walk of ModelSure.
-/
import Derived.Test.YtecfppglpallmaaModel4
namespace Go.Proofs.Ytecfppglpallmaa
open Go.RowKit
set_option linter.unusedVariables false
set_option linter.unusedSimpArgs false

/-- a history of n pasts, of which one is known -/
def KS (B h R cap N n x : Nat) (l : List ByteArray) (sn wr su : Bool) (w W : World) : Prop := ∃ qs q, HS B h R cap qs N w W ∧ qs.length = n ∧ qs[x]? = some q ∧ q.l = l ∧ q.seen = sn ∧ q.wr = wr ∧ q.sure = su
section
variable {B h R cap N n x : Nat} {l : List ByteArray} {sn wr su : Bool} {w W W' : World}
theorem KS.below (H : KS B h R cap N n x l sn wr su w W) (hb : Below W.heap.size W W') : KS B h R cap N n x l sn wr su w W' := by
  obtain ⟨qs, q, h1, h2⟩ := H
  exact ⟨qs, q, h1.below hb, h2⟩
theorem KS.bel (H : KS B h R cap N n x l sn wr su w W) : Below B w W := by
  obtain ⟨qs, q, h1, h2⟩ := H
  exact h1.bel
theorem wrote_k (d : ByteArray) (H : KS B h R cap N n x l sn wr su w W) (hm : n ≤ 1000) (hN : N ≤ 1000) : Calls Try.prog 7 #[.pointer (some ⟨h, 0, none⟩), .int .i64 x, .string d] W fun e w' => e = .returned (.bool true) ∧ KS B h R cap (N + 1) n x (l ++ [d]) true true su w w' := by
  obtain ⟨qs, q, h1, h2, h3, rfl, rfl, rfl, rfl⟩ := H
  have hx := (List.getElem?_eq_some_iff.1 h3).1
  refine (wrote_s x q d h1 h3 (by omega) hN).mono ?_
  rintro e w' ⟨rfl, v, g, hs⟩
  exact ⟨rfl, _, wrQ q d v g, hs, by rw [List.length_set]; exact h2, List.getElem?_set_self hx, rfl, rfl, rfl, rfl⟩
theorem wrote_kout (e : Int) (d : ByteArray) (H : KS B h R cap N n x l sn wr su w W) (he : e < 0 ∨ (n : Int) ≤ e) : Calls Try.prog 7 #[.pointer (some ⟨h, 0, none⟩), .int .i64 e, .string d] W fun e w' => e = .returned (.bool false) ∧ w' = W := by
  obtain ⟨qs, q, h1, h2, h3, _⟩ := H
  exact wrote_out B h R cap qs e d W h1.hx (by rw [h2]; exact he)
theorem lost_k (H : KS B h R cap N n x l sn wr su w W) (hm : n ≤ 1000) (hN : N ≤ 1000) : Calls Try.prog 9 #[.pointer (some ⟨h, 0, none⟩)] W fun e w' => e = .returned (.tuple #[]) ∧ KS B h R cap (N + 1) n x l (sn && decide (l.length = 1)) wr su w w' := by
  obtain ⟨qs, q, h1, h2, h3, rfl, rfl, rfl, rfl⟩ := H
  have hx := (List.getElem?_eq_some_iff.1 h3).1
  refine (lost_s h1 (by omega) hN).mono ?_
  rintro e w' ⟨rfl, qs', hr, hs⟩
  obtain ⟨q', g1, g2⟩ := hr.2 x q h3
  rw [if_pos hx] at g2
  obtain ⟨a1, a2, a3, a4⟩ := g2
  exact ⟨rfl, qs', q', hs, hr.1.trans h2, g1, a1, a2, a3, a4⟩
theorem flushed_k (H : KS B h R cap N n x l true wr su w W) (hm : n ≤ 1000) (hN : N ≤ 1000) : Calls Try.prog 8 #[.pointer (some ⟨h, 0, none⟩)] W fun e w' => e = .returned (.tuple #[]) ∧ KS B h R cap (N + 1) n x (l.drop (l.length - 1)) true wr wr w w' := by
  obtain ⟨qs, q, h1, h2, h3, rfl, hs0, rfl, rfl⟩ := H
  have hx := (List.getElem?_eq_some_iff.1 h3).1
  refine (flushed_s h1 (by omega) hN).mono ?_
  rintro e w' ⟨rfl, qs', hr, hs⟩
  obtain ⟨q', g1, g2⟩ := hr.2 x q h3
  rw [if_pos hx] at g2
  obtain ⟨a1, a2, a3, a4⟩ := g2.2 hs0
  exact ⟨rfl, qs', q', hs, hr.1.trans h2, g1, a1, a2, a3, a4⟩
theorem last_k (l0 : List ByteArray) (y : ByteArray) (H : KS B h R cap N n x l true wr su w W) (hl : l = l0 ++ [y]) (hm : n ≤ 1000) (hN : N ≤ 1000) : Calls Try.prog 10 #[.pointer (some ⟨h, 0, none⟩), .int .i64 x] W fun e w' => e = .returned (.tuple #[.string y, .bool true]) ∧ Below W.heap.size W w' := by
  obtain ⟨qs, q, h1, h2, h3, h4, hs0, _, _⟩ := H
  have hlen := h1.len x q h3
  rw [h4, hl, List.length_append] at hlen
  exact last_in B h R cap qs x q l0 y W h1.hx h3 hs0 (h4.trans hl) (by omega) (by simp at hlen; omega)
theorem last_no (H : KS B h R cap N n x l false wr su w W) (hm : n ≤ 1000) : Calls Try.prog 10 #[.pointer (some ⟨h, 0, none⟩), .int .i64 x] W fun e w' => e = .returned (.tuple #[.string ⟨#[]⟩, .bool false]) ∧ w' = W := by
  obtain ⟨qs, q, h1, h2, h3, h4, hs0, _, _⟩ := H
  have hx := (List.getElem?_eq_some_iff.1 h3).1
  have hof := of_in B h R cap qs x W h1.hx hx (by omega)
  obtain ⟨_, e1, _, _⟩ := h1.hx.cells h3
  rw [hs0] at e1
  go_enter Try.func10, Try.ntmps10
  go_wp2_with (go_at_call 13; (with_reducible refine hof.mono ?_); rintro e w1 ⟨rfl, rfl⟩)
  go_ret2
  exact ⟨rfl, rfl⟩
theorem written_k (H : KS B h R cap N n x l sn wr su w W) (hm : n ≤ 1000) : Calls Try.prog 11 #[.pointer (some ⟨h, 0, none⟩), .int .i64 x] W fun e w' => e = .returned (.tuple #[.bool wr, .bool su]) ∧ Below W.heap.size W w' := by
  obtain ⟨qs, q, h1, h2, h3, rfl, rfl, rfl, rfl⟩ := H
  exact written_in B h R cap qs x q W h1.hx h3 (by omega)
theorem may_k (d : ByteArray) (H : KS B h R cap N n x l sn wr su w W) (hm : n ≤ 1000) (hN : N ≤ 1000) : Calls Try.prog 12 #[.pointer (some ⟨h, 0, none⟩), .int .i64 x, .string d] W fun e w' => e = .returned (.bool (memB d l)) ∧ Below W.heap.size W w' := by
  obtain ⟨qs, q, h1, h2, h3, rfl, rfl, rfl, rfl⟩ := H
  have hlen := h1.len x q h3
  exact may_in B h R cap qs x q d W h1.hx h3 (by omega) (by omega)
theorem step_k (k e : Int) (d : ByteArray) (H : KS B h R cap N n x l sn wr su w W) (hk : k < 2) (he : (x : Int) ≠ e) (hm : n ≤ 1000) (hN : N ≤ 1000) : Calls Try.prog 6 #[.pointer (some ⟨h, 0, none⟩), .agg #[.int .i64 k, .int .i64 e, .string d]] W fun r w' => r = .returned (.tuple #[]) ∧ KS B h R cap (N + 1) n x l sn wr su w w' := by
  obtain ⟨qs, q, h1, h2, h3, h4⟩ := H
  refine (step_any k e d h1 (by omega) hN).mono ?_
  rintro r w' ⟨rfl, qs', hs, hl, hx⟩
  exact ⟨rfl, qs', q, hs, hl.trans h2, (hx hk x he).trans h3, h4⟩
end
theorem KS.up {B h R cap N M n x : Nat} {l : List ByteArray} {sn wr su : Bool} {w W : World} (H : KS B h R cap N n x l sn wr su w W) (hM : N ≤ M) : KS B h R cap M n x l sn wr su w W := by
  obtain ⟨qs, q, h1, h2⟩ := H
  exact ⟨qs, q, h1.up hM, h2⟩
/-- a new history of some pasts -/
theorem new_s (a : Option Addr) (cap : Nat) (base : List ByteArray) (W : World) (hl : StrAt W a base) (hm : base.length ≤ 1000) (h0 : base ≠ []) :
    Calls Try.prog 5 #[.slice a base.length cap] W fun e w' => e = .returned (.pointer (some ⟨W.heap.size, 0, none⟩)) ∧ ∃ R c qs, HS W.heap.size W.heap.size R c qs 1 W w' ∧ qs.length = base.length ∧ ∀ (i : Nat) q, qs[i]? = some q → ∃ x, base[i]? = some x ∧ NewOf x q := by
  refine (new_any a cap base W hl hm).mono ?_
  rintro e w' ⟨rfl, ⟨v, qs, hV, hN, hE⟩, hb⟩
  have hq0 : qs ≠ [] := by rintro rfl; exact h0 (List.length_eq_zero_iff.1 hN.1.symm)
  obtain ⟨R, c, hx, hR⟩ := hV.hx hq0
  refine ⟨rfl, R, c, qs, ⟨hx, hb, hb.size, hR, fun i q hq => ?_⟩, hN.1, hN.2⟩
  obtain ⟨x, _, h1, _⟩ := hN.2 i q hq
  rw [h1]; exact Nat.le_refl _
theorem new_e (a : Option Addr) (cap : Nat) (W : World) : Calls Try.prog 5 #[.slice a 0 cap] W fun e w' => e = .returned (.pointer (some ⟨W.heap.size, 0, none⟩)) ∧ HE w' W.heap.size ∧ Below W.heap.size W w' := by
  refine (new_any a cap [] W (fun k x h => by simp at h) (by decide)).mono ?_
  rintro e w' ⟨rfl, ⟨v, qs, hV, hN, hE⟩, hb⟩
  have hq0 : qs = [] := List.length_eq_zero_iff.1 hN.1
  subst hq0
  exact ⟨rfl, hV.he (hE rfl), hb⟩
abbrev sx : ByteArray := ⟨#[120]⟩
abbrev sy : ByteArray := ⟨#[121]⟩
abbrev sz : ByteArray := ⟨#[122]⟩
set_option maxHeartbeats 1600000 in
theorem works_any (w : World) : Calls Try.prog 4 #[] w fun e w' => e = .returned (.bool true) ∧ Below w.heap.size w w' := by
  have hb0 := alb w (.cells #[.string ⟨#[120]⟩] 9)
  have hst : StrAt (w.alloc (.cells #[.string ⟨#[120]⟩] 9)) (some ⟨w.heap.size, 0, none⟩) [sx] := by
    intro k x hk
    match k, hk with
    | 0, hk => simp at hk; subst hk; exact ⟨w.heap.size, 0, rfl, by simp [go_sem]⟩
    | k + 1, hk => simp at hk
  have h1 := new_s (some ⟨w.heap.size, 0, none⟩) 1 [sx] _ hst (by decide) (by simp)
  have h1' : Calls Try.prog 5 #[.slice (some ⟨w.heap.size, 0, none⟩) 1 1] (w.alloc (.cells #[.string ⟨#[120]⟩] 9)) fun e w' => ∃ h B R c, e = .returned (.pointer (some ⟨h, 0, none⟩)) ∧ w.heap.size ≤ B ∧ KS B h R c 1 1 0 [sx] true false false (w.alloc (.cells #[.string ⟨#[120]⟩] 9)) w' := by
    refine h1.mono ?_
    rintro e w' ⟨rfl, R, c, qs, hs, hl, hq⟩
    have hl1 : qs.length = 1 := hl
    have hi : 0 < qs.length := by omega
    obtain ⟨x, hx, a1, a2, a3, a4⟩ := hq 0 _ (List.getElem?_eq_getElem hi)
    simp at hx
    subst hx
    exact ⟨_, _, R, c, rfl, by simp, qs, _, hs, hl1, List.getElem?_eq_getElem hi, a1, a2, a3, a4⟩
  clear h1 hst
  have m1 : memB sx [sx, sy] = true := by decide
  have m2 : memB sy [sx, sy] = true := by decide
  have m3 : memB sy [sz] = false := by decide
  replace hb0 := Lib.hid hb0
  go_enter Try.func4, Try.ntmps4
  go_wp2_with (first
    | (go_at_call 5; (with_reducible refine h1'.mono ?_); rintro e w1 ⟨h, B, R, c, rfl, hwB, k1⟩; have c2 : Calls Try.prog 7 #[.pointer (some ⟨h, 0, none⟩), .int .i64 0, .string sy] w1 _ := wrote_k sy k1 (by decide) (by decide); have c3 := fun W (k2 : KS B h R c (1 + 1) 1 0 ([sx] ++ [sy]) true true false (w.alloc (.cells #[.string ⟨#[120]⟩] 9)) W) => wrote_kout 1 sy k2 (by omega); clear h1')
    | (go_at_call 7; first | ((with_reducible refine c2.mono ?_); rintro e w2 ⟨rfl, k2⟩; clear c2; have c3' := c3 w2 k2) | ((with_reducible refine c3'.mono ?_); rintro e w3 ⟨rfl, rfl⟩; clear c3' c3) | ((with_reducible refine c8.mono ?_); rintro e w8 ⟨rfl, k8⟩))
    | (go_at_call 9; (with_reducible refine (lost_k k2 (by decide) (by decide)).mono ?_); rintro e w4 ⟨rfl, k3⟩; have k3' : KS B h R c (1 + 1 + 1) 1 0 [sx, sy] false true false (w.alloc (.cells #[.string ⟨#[120]⟩] 9)) w4 := k3; clear k3; have c5 : Calls Try.prog 10 #[.pointer (some ⟨h, 0, none⟩), .int .i64 0] w4 _ := last_no k3' (by decide); have c6 : Calls Try.prog 12 #[.pointer (some ⟨h, 0, none⟩), .int .i64 0, .string sx] w4 _ := may_k sx k3' (by decide) (by decide))
    | (go_at_call 10; first | ((with_reducible refine c5.mono ?_); rintro e w5 ⟨rfl, rfl⟩) | ((with_reducible refine c10.mono ?_); rintro e w10 ⟨rfl, b10⟩; have k10 := k9'.below b10; have c11 : Calls Try.prog 12 #[.pointer (some ⟨h, 0, none⟩), .int .i64 0, .string sy] w10 _ := may_k sy k10 (by decide) (by decide)))
    | (go_at_call 12; first | ((with_reducible refine c6.mono ?_); rintro e w6 ⟨rfl, b6⟩; have k6 := k3'.below b6; have c7 : Calls Try.prog 12 #[.pointer (some ⟨h, 0, none⟩), .int .i64 0, .string sy] w6 _ := may_k sy k6 (by decide) (by decide); rw [m1]) | ((with_reducible refine c7.mono ?_); rintro e w7 ⟨rfl, b7⟩; have k4 := k6.below b7; have c8 : Calls Try.prog 7 #[.pointer (some ⟨h, 0, none⟩), .int .i64 0, .string sz] w7 _ := wrote_k sz k4 (by decide) (by decide); rw [m2]) | ((with_reducible refine c11.mono ?_); rintro e w11 ⟨rfl, b11⟩; have k11 := k10.below b11; rw [m3]))
    | (go_at_call 8; (with_reducible refine (flushed_k k8 (by decide) (by decide)).mono ?_); rintro e w9 ⟨rfl, k9⟩; have k9' : KS B h R c (1 + 1 + 1 + 1 + 1) 1 0 [sz] true true true (w.alloc (.cells #[.string ⟨#[120]⟩] 9)) w9 := k9; have c10 : Calls Try.prog 10 #[.pointer (some ⟨h, 0, none⟩), .int .i64 0] w9 _ := last_k [] sz k9' rfl (by decide) (by decide)))
  go_ret
  exact ⟨rfl, hb0.out.trans (k11.bel.mono hwB)⟩
/-- what a step asks -/
structure MOp where
  k : Int
  e : Int
  d : ByteArray
def mopE (o : MOp) : List Value := [.int .i64 o.k, .int .i64 o.e, .string o.d]
def mopOk (o : MOp) : Prop := (Lit.int .i64 o.k).wf = true ∧ (Lit.int .i64 o.e).wf = true ∧ o.d.size ≤ maxLen
instance : Inhabited MOp := ⟨⟨0, 0, ⟨#[]⟩⟩⟩
theorem mop_of (vs : List Value) (h : OKs [LK.int .i64, LK.int .i64, LK.str] vs) : ∃ x, vs = mopE x ∧ mopOk x := by
  obtain ⟨c0, r0, rfl, h0, h⟩ := OKs.cons h
  obtain ⟨c1, r1, rfl, h1, h⟩ := OKs.cons h
  obtain ⟨c2, r2, rfl, h2, h⟩ := OKs.cons h
  obtain rfl := OKs.nil h
  obtain ⟨a0, rfl, w0⟩ := h0
  obtain ⟨a1, rfl, w1⟩ := h1
  obtain ⟨a2, rfl, w2⟩ := h2
  exact ⟨⟨a0, a1, a2⟩, rfl, w0, w1, w2⟩
def MAt (W : World) (a : Option Addr) (l : List MOp) : Prop := ∀ (k : Nat) y, l[k]? = some y → ∃ g o, a = some ⟨g, o, none⟩ ∧ W.cell? ⟨g, o + k * 3, none⟩ = some (.int .i64 y.k) ∧ W.cell? ⟨g, o + k * 3 + 1, none⟩ = some (.int .i64 y.e) ∧ W.cell? ⟨g, o + k * 3 + 2, none⟩ = some (.string y.d)
theorem MAt.keep {W W' : World} {a : Option Addr} {l : List MOp} (h : MAt W a l) (hb : Below W.heap.size W W') : MAt W' a l := by
  intro k x hk
  obtain ⟨g, o, e, h1, h2, h3⟩ := h k x hk
  exact ⟨g, o, e, bkeep hb h1, bkeep hb h2, bkeep hb h3⟩
theorem m_of {w : World} {a : Option Addr} {len : Nat} {l : List MOp} (h : IsList w a len 3 mopE mopOk l) : MAt w a l := by
  intro k x hk
  have hkl := (List.getElem?_eq_some_iff.1 hk).1
  have hx := (List.getElem?_eq_some_iff.1 hk).2
  have hse := h.size_eq
  obtain ⟨b, o, e, hc⟩ := h.at_ (by omega)
  have h2 := (hc k hkl).2
  rw [hx] at h2
  exact ⟨b, o, e, h2 0 (by omega), h2 1 (by omega), h2 2 (by omega)⟩
theorem s_of {w : World} {a : Option Addr} {len : Nat} {l : List ByteArray} (h : IsList w a len 1 strE strOk l) : StrAt w a l := by
  intro k x hk
  have hkl := (List.getElem?_eq_some_iff.1 hk).1
  have hx := (List.getElem?_eq_some_iff.1 hk).2
  have hse := h.size_eq
  obtain ⟨b, o, e, hc⟩ := h.at_ (by omega)
  have h2 := (hc k hkl).2
  rw [hx] at h2
  have h3 := h2 0 (by omega)
  rw [Nat.mul_one, Nat.add_zero] at h3
  exact ⟨b, o, e, h3⟩
set_option maxRecDepth 20000 in
set_option maxHeartbeats 6400000 in
theorem walk_ModelSure (ab : Option Addr) (lenb capb : Nat) (base : List ByteArray) {w : World} (hb : IsList w ab lenb 1 strE strOk base) (al : Option Addr) (lenl capl : Nat) (l : List MOp) (hl : IsList w al lenl 3 mopE mopOk l) (ex : Int) (uex : (Lit.int .i64 ex).wf = true) (data : ByteArray) (ud : data.size ≤ 140737488351232)
    (am : Option Addr) (lenm capm : Nat) (m : List MOp) (hmm : IsList w am lenm 3 mopE mopOk m) (other : ByteArray) (uo : other.size ≤ 140737488351232) :
    Calls Try.prog 3 #[.slice ab lenb capb, .slice al lenl capl, .int .i64 ex, .string data, .slice am lenm capm, .string other] w fun e w' => e = .returned (.bool true) ∧ Below w.heap.size w w' := by
  have e1 := hb.size_eq
  have e2 := hl.size_eq
  have e3 := hmm.size_eq
  subst e1 e2 e3
  have hB := Lib.hid (s_of hb)
  have hL := Lib.hid (m_of hl)
  have hM := Lib.hid (m_of hmm)
  clear uex ud uo hb hl hmm
  by_cases g1 : 50 < base.length
  · have z1 : decide ((50 : Int) < (base.length : Int)) = true := decide_eq_true (by omega)
    have z1' : decide (50 < base.length) = true := decide_eq_true g1
    go_enter Try.func3, Try.ntmps3
    go_wp2_with (first | (go_at_call 4; (with_reducible refine (works_any _).mono ?_); rintro e w1 ⟨rfl, hb1⟩))
    go_ret
    exact ⟨rfl, hb1⟩
  · have z1 : decide ((50 : Int) < (base.length : Int)) = false := decide_eq_false (by omega)
    have z1' : decide (50 < base.length) = false := decide_eq_false g1
    by_cases g2 : 150 < l.length
    · have z2 : decide ((150 : Int) < (l.length : Int)) = true := decide_eq_true (by omega)
      have z2' : decide (150 < l.length) = true := decide_eq_true g2
      go_enter Try.func3, Try.ntmps3
      go_wp2_with (first | (go_at_call 4; (with_reducible refine (works_any _).mono ?_); rintro e w1 ⟨rfl, hb1⟩))
      go_ret
      exact ⟨rfl, hb1⟩
    · have z2 : decide ((150 : Int) < (l.length : Int)) = false := decide_eq_false (by omega)
      have z2' : decide (150 < l.length) = false := decide_eq_false g2
      by_cases g3 : 150 < m.length
      · have z3 : decide ((150 : Int) < (m.length : Int)) = true := decide_eq_true (by omega)
        have z3' : decide (150 < m.length) = true := decide_eq_true g3
        go_enter Try.func3, Try.ntmps3
        go_wp2_with (first | (go_at_call 4; (with_reducible refine (works_any _).mono ?_); rintro e w1 ⟨rfl, hb1⟩))
        go_ret
        exact ⟨rfl, hb1⟩
      · have z3 : decide ((150 : Int) < (m.length : Int)) = false := decide_eq_false (by omega)
        have z3' : decide (150 < m.length) = false := decide_eq_false g3
        by_cases hb0 : base = []
        · subst hb0
          have hnew := fun W => new_e ab capb W
          replace hnew := Lib.hid hnew
          clear hM hB
          go_enter Try.func3, Try.ntmps3
          go_wp2_with (first | (go_at_call 4; (with_reducible refine (works_any _).mono ?_); rintro e w1 ⟨rfl, hb1⟩) | (go_at_call 5; (with_reducible refine (hnew.out _).mono ?_); rintro e w2 ⟨rfl, hE, hb2⟩))
          replace hE := Lib.hid hE
          have hbb := Lib.hid (bt hb1 hb2)
          replace hL := Lib.hid (hL.out.keep hbb.out)
          have hfin : Hid (Below w1.heap.size w1 w2) := hb2
          clear hb1 hb2 hnew
          go_loopw [14] (fun i wr => ∃ k : Nat, k ≤ l.length ∧ i = .int .i64 k ∧ Hid (HE wr w1.heap.size) ∧ Hid (Below w2.heap.size w2 wr)) (fun i _ => l.length - (intOf i).toNat)
          case atStart => exact ⟨0, Nat.zero_le _, rfl, hE, Below.refl _ _⟩
          case round =>
            obtain ⟨k, hk, rfl, hE2, hBl⟩ := hrel
            clear hE
            by_cases hlt : k < l.length
            · have hd : decide ((k : Int) < (l.length : Int)) = true := decide_eq_true (by omega)
              obtain ⟨⟨kk, ke, kd⟩, hy⟩ : ∃ y, l[k]? = some y := ⟨_, List.getElem?_eq_getElem hlt⟩
              obtain ⟨g, o, rfl, q1, q2, q3⟩ := hL.out k _ hy
              have q1 : wr.cell? ⟨g, o + k * 3, none⟩ = some (.int .i64 kk) := bkeep hBl.out q1
              have q2 : wr.cell? ⟨g, o + k * 3 + 1, none⟩ = some (.int .i64 ke) := bkeep hBl.out q2
              have q3 : wr.cell? ⟨g, o + k * 3 + 2, none⟩ = some (.string kd) := bkeep hBl.out q3
              have i1 : (0 : Int) ≤ (k : Int) := by omega
              have i2 : (k : Int) < (l.length : Int) := by omega
              have hs := Lib.hid (step_e w1.heap.size kk ke kd wr hE2.out)
              have hE3 := Lib.hid (fun W hb => hE2.out.below (W' := W) hb)
              clear hy hE2
              go_wp2_with (first | (go_at_call 6; (with_reducible refine hs.out.mono ?_); rintro e w3 ⟨rfl, hb3⟩))
              exact ⟨⟨k + 1, by omega, by go_num, hE3.out _ hb3, bt hBl.out hb3⟩, by simp [intOf]; omega⟩
            · have hd : decide ((k : Int) < (l.length : Int)) = false := decide_eq_false (by omega)
              have hw := wrote_e w1.heap.size ex data wr hE2.out
              by_cases hx0 : ex < 0
              · have y1 : decide (ex < 0) = true := decide_eq_true hx0
                go_wp2_with (first | (go_at_call 7; (with_reducible refine hw.mono ?_); rintro e w3 ⟨rfl, rfl⟩))
                go_ret
                exact ⟨rfl, bt hbb.out hBl.out⟩
              · have y1 : decide (ex < 0) = false := decide_eq_false hx0
                have y2 : decide ((0 : Int) ≤ ex) = true := decide_eq_true (by omega)
                go_wp2_with (first | (go_at_call 7; (with_reducible refine hw.mono ?_); rintro e w3 ⟨rfl, rfl⟩))
                go_ret
                exact ⟨rfl, bt hbb.out hBl.out⟩
        · have hnew := fun W h => new_s ab capb base W h (by omega) hb0
          replace hnew := Lib.hid hnew
          go_enter Try.func3, Try.ntmps3
          go_wp2_with (first | (go_at_call 4; (with_reducible refine (works_any _).mono ?_); rintro e w1 ⟨rfl, hb1⟩) | (go_at_call 5; (with_reducible refine (hnew.out _ (hB.out.keep hb1)).mono ?_); rintro e w2 ⟨rfl, R, c, qs, hS, hql, _⟩))
          replace hS := Lib.hid hS
          replace hL := Lib.hid (hL.out.keep hb1)
          replace hM := Lib.hid (hM.out.keep hb1)
          replace hb1 := Lib.hid hb1
          replace hql := Lib.hid hql
          clear hnew hB hb0
          go_loopw [14] (fun i wr => ∃ (k : Nat) (qs : List Pc), k ≤ l.length ∧ i = .int .i64 k ∧ Hid (HS w1.heap.size w1.heap.size R c qs (1 + k) w1 wr) ∧ Hid (qs.length = base.length)) (fun i _ => l.length - (intOf i).toNat)
          case atStart => exact ⟨0, qs, Nat.zero_le _, rfl, hS, hql⟩
          case round =>
            obtain ⟨k, qs, hk, rfl, hS, hql⟩ := hrel
            by_cases hlt : k < l.length
            · have hd : decide ((k : Int) < (l.length : Int)) = true := decide_eq_true (by omega)
              obtain ⟨⟨kk, ke, kd⟩, hy⟩ : ∃ y, l[k]? = some y := ⟨_, List.getElem?_eq_getElem hlt⟩
              obtain ⟨g, o, rfl, q1, q2, q3⟩ := hL.out k _ hy
              have q1 : wr.cell? ⟨g, o + k * 3, none⟩ = some (.int .i64 kk) := bkeep hS.out.bel q1
              have q2 : wr.cell? ⟨g, o + k * 3 + 1, none⟩ = some (.int .i64 ke) := bkeep hS.out.bel q2
              have q3 : wr.cell? ⟨g, o + k * 3 + 2, none⟩ = some (.string kd) := bkeep hS.out.bel q3
              have i1 : (0 : Int) ≤ (k : Int) := by omega
              have i2 : (k : Int) < (l.length : Int) := by omega
              have hs := Lib.hid (step_any kk ke kd hS.out (by have := hql.out; omega) (by omega))
              have hq2 := Lib.hid (fun n (h : n = qs.length) => h.trans hql.out)
              clear hy
              go_wp2_with (first | (go_at_call 6; (with_reducible refine hs.out.mono ?_); rintro e w3 ⟨rfl, qs', hS3, hl3, _⟩))
              exact ⟨⟨k + 1, qs', by omega, by go_num, hS3, hq2.out _ hl3⟩, by simp [intOf]; omega⟩
            · have hd : decide ((k : Int) < (l.length : Int)) = false := decide_eq_false (by omega)
              have hqn := hql.out
              by_cases hin : 0 ≤ ex ∧ ex < base.length
              · obtain ⟨x, rfl⟩ : ∃ x : Nat, ex = x := ⟨ex.toNat, by omega⟩
                have hxl : x < qs.length := by omega
                have hK : KS w1.heap.size w1.heap.size R c (1 + k) qs.length x (qs[x]'hxl).l (qs[x]'hxl).seen (qs[x]'hxl).wr (qs[x]'hxl).sure w1 wr := ⟨qs, _, hS.out, rfl, List.getElem?_eq_getElem hxl, rfl, rfl, rfl, rfl⟩
                have hqb : qs.length ≤ 50 := by omega
                generalize (qs[x]'hxl).l = l0 at hK
                generalize (qs[x]'hxl).seen = b1 at hK
                generalize (qs[x]'hxl).wr = b2 at hK
                generalize (qs[x]'hxl).sure = b3 at hK
                have hw := Lib.hid (wrote_k data hK (by omega) (by omega))
                generalize qs.length = n at *
                clear hK hS hin
                go_wp2_with (first | (go_at_call 7; (with_reducible refine hw.out.mono ?_); rintro e w3 ⟨rfl, hK3⟩))
                have hK3 := Lib.hid (hK3.up (M := 200) (by omega))
                clear hw
                go_loopw [15] (fun i wr => ∃ (j : Nat), j ≤ m.length ∧ i = .int .i64 j ∧ Hid (KS w1.heap.size w1.heap.size R c (200 + j) n x (l0 ++ [data]) true true b3 w1 wr)) (fun i _ => m.length - (intOf i).toNat)
                case atStart => exact ⟨0, Nat.zero_le _, rfl, hK3⟩
                case round =>
                  obtain ⟨j, hj, rfl, hK⟩ := hrel
                  clear hK3
                  by_cases hjl : j < m.length
                  · have hd3 : decide ((j : Int) < (m.length : Int)) = true := decide_eq_true (by omega)
                    obtain ⟨⟨kk, ke, kd⟩, hy⟩ : ∃ y, m[j]? = some y := ⟨_, List.getElem?_eq_getElem hjl⟩
                    obtain ⟨g, o, rfl, q1, q2, q3⟩ := hM.out j _ hy
                    have q1 : wr.cell? ⟨g, o + j * 3, none⟩ = some (.int .i64 kk) := bkeep hK.out.bel q1
                    have q2 : wr.cell? ⟨g, o + j * 3 + 1, none⟩ = some (.int .i64 ke) := bkeep hK.out.bel q2
                    have q3 : wr.cell? ⟨g, o + j * 3 + 2, none⟩ = some (.string kd) := bkeep hK.out.bel q3
                    have i1 : (0 : Int) ≤ (j : Int) := by omega
                    have i2 : (j : Int) < (m.length : Int) := by omega
                    have hsame : Hid (KS w1.heap.size w1.heap.size R c (200 + (j + 1)) n x (l0 ++ [data]) true true b3 w1 wr) := hK.out.up (by omega)
                    clear hy
                    by_cases hk2 : kk < 2
                    · have y1 : decide (kk < 2) = true := decide_eq_true hk2
                      by_cases hke : ke = (x : Int)
                      · have y2 : (ke == (x : Int)) = true := beq_iff_eq.2 hke
                        have y3 : (ke != (x : Int)) = false := by simp [bne, y2]
                        subst hke
                        go_wp2
                        exact ⟨⟨j + 1, by omega, by go_num, hsame⟩, by simp [intOf]; omega⟩
                      · have y2 : (ke == (x : Int)) = false := beq_eq_false_iff_ne.2 hke
                        have y3 : (ke != (x : Int)) = true := by simp [bne, y2]
                        have hs := Lib.hid (step_k kk ke kd hK.out hk2 (fun e => hke e.symm) (by omega) (by omega))
                        clear hK hsame hke
                        go_wp2_with (first | (go_at_call 6; (with_reducible refine hs.out.mono ?_); rintro e w4 ⟨rfl, hK4⟩))
                        exact ⟨⟨j + 1, by omega, by go_num, hK4⟩, by simp [intOf]; omega⟩
                    · have y1 : decide (kk < 2) = false := decide_eq_false hk2
                      go_wp2
                      exact ⟨⟨j + 1, by omega, by go_num, hsame⟩, by simp [intOf]; omega⟩
                  · have hd3 : decide ((j : Int) < (m.length : Int)) = false := decide_eq_false (by omega)
                    have hf := Lib.hid (flushed_k hK.out (by omega) (by omega))
                    have hdr : (l0 ++ [data]).drop ((l0 ++ [data]).length - 1) = [data] := by rw [List.length_append]; simp
                    rw [hdr] at hf
                    have hlo := Lib.hid (fun W hK => lost_k (W := W) (w := w1) (B := w1.heap.size) (h := w1.heap.size) (R := R) (cap := c) (N := 200 + j + 1) (n := n) (x := x) (l := [data]) (sn := true) (wr := true) (su := true) hK (by omega) (by omega))
                    have hla := Lib.hid (fun W hK => last_k (W := W) (w := w1) (B := w1.heap.size) (h := w1.heap.size) (R := R) (cap := c) (N := 200 + j + 1 + 1) (n := n) (x := x) (l := [data]) (wr := true) (su := true) [] data hK rfl (by omega) (by omega))
                    have hwr := Lib.hid (fun W hK => written_k (W := W) (w := w1) (B := w1.heap.size) (h := w1.heap.size) (R := R) (cap := c) (N := 200 + j + 1 + 1) (n := n) (x := x) (l := [data]) (sn := true) (wr := true) (su := true) hK (by omega))
                    have hma := fun d W hK => may_k (W := W) (w := w1) (B := w1.heap.size) (h := w1.heap.size) (R := R) (cap := c) (N := 200 + j + 1 + 1) (n := n) (x := x) (l := [data]) (sn := true) (wr := true) (su := true) d hK (by omega) (by omega)
                    have hm1 := hma data
                    have hm2 := hma other
                    rw [memB_one, decide_eq_true (rfl : data = data)] at hm1
                    rw [memB_one] at hm2
                    have hbo := ba_beq other data
                    have hbd := ba_beq data data
                    rw [decide_eq_true (rfl : data = data)] at hbd
                    generalize decide (other = data) = od at *
                    clear hma
                    replace hm1 := Lib.hid hm1
                    replace hm2 := Lib.hid hm2
                    clear hK
                    go_wp2_with (first
                      | (go_at_call 8; (with_reducible refine hf.out.mono ?_); rintro e w5 ⟨rfl, k5⟩)
                      | (go_at_call 9; (with_reducible refine (hlo.out _ k5).mono ?_); rintro e w6 ⟨rfl, k6⟩; have k6' : KS w1.heap.size w1.heap.size R c (200 + j + 1 + 1) n x [data] true true true w1 w6 := k6)
                      | (go_at_call 10; (with_reducible refine (hla.out _ k6').mono ?_); rintro e w7 ⟨rfl, b7⟩; have k7 := k6'.below b7)
                      | (go_at_call 11; (with_reducible refine (hwr.out _ k7).mono ?_); rintro e w8 ⟨rfl, b8⟩; have k8 := k7.below b8)
                      | (go_at_call 12; first | ((with_reducible refine (hm1.out _ k8).mono ?_); rintro e w9 ⟨rfl, b9⟩; have k9 := k8.below b9) | ((with_reducible refine (hm2.out _ k9).mono ?_); rintro e w10 ⟨rfl, b10⟩; have k10 := k9.below b10)))
                    all_goals (go_ret; exact ⟨by first | rfl | simp, bt hb1.out k10.bel⟩)
              · have hw := wrote_out w1.heap.size w1.heap.size R c qs ex data wr hS.out.hx (by omega)
                by_cases hx0 : ex < 0
                · have y1 : decide (ex < 0) = true := decide_eq_true hx0
                  clear hin
                  go_wp2_with (first | (go_at_call 7; (with_reducible refine hw.mono ?_); rintro e w3 ⟨rfl, rfl⟩))
                  go_ret
                  exact ⟨rfl, bt hb1.out hS.out.bel⟩
                · have y1 : decide (ex < 0) = false := decide_eq_false hx0
                  have y2 : decide ((base.length : Int) ≤ ex) = true := decide_eq_true (by omega)
                  clear hin
                  go_wp2_with (first | (go_at_call 7; (with_reducible refine hw.mono ?_); rintro e w3 ⟨rfl, rfl⟩))
                  go_ret
                  exact ⟨rfl, bt hb1.out hS.out.bel⟩
end Go.Proofs.Ytecfppglpallmaa
