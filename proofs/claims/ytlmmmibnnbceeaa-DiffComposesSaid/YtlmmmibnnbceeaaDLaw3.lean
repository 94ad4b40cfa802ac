/-
  Bytes of any two texts, by any parts (chapter 41): the law.
-/
import Derived.Test.YtlmmmibnnbceeaaCompose
namespace Go.Proofs.Ytlmmmibnnbceeaa
open Go.RowKit
set_option linter.unusedVariables false
set_option linter.unusedSimpArgs false

def popE (x : I3) : List Value := [.int .i64 x.1, .int .i64 x.2.1, .int .i64 x.2.2]
def popOk (x : I3) : Prop := (Lit.int .i64 x.1).wf = true ∧ (Lit.int .i64 x.2.1).wf = true ∧ (Lit.int .i64 x.2.2).wf = true
theorem pop_of (vs : List Value) (h : OKs [LK.int .i64, LK.int .i64, LK.int .i64] vs) : ∃ x, vs = popE x ∧ popOk x := by
  obtain ⟨c0, r0, rfl, h0, h⟩ := OKs.cons h
  obtain ⟨c1, r1, rfl, h1, h⟩ := OKs.cons h
  obtain ⟨c2, r2, rfl, h2, h⟩ := OKs.cons h
  obtain rfl := OKs.nil h
  obtain ⟨a0, rfl, w0⟩ := h0
  obtain ⟨a1, rfl, w1⟩ := h1
  obtain ⟨a2, rfl, w2⟩ := h2
  exact ⟨(a0, a1, a2), rfl, w0, w1, w2⟩
theorem p3_of {w : World} {a : Option Addr} {len : Nat} {l : List I3} (h : IsList w a len 3 popE popOk l) : P3At w a l := by
  intro k x hk
  have hkl := (List.getElem?_eq_some_iff.1 hk).1
  have hx := (List.getElem?_eq_some_iff.1 hk).2
  have hse := h.size_eq
  obtain ⟨b, o, e, hc⟩ := h.at_ (by omega)
  have h2 := (hc k hkl).2
  rw [hx] at h2
  exact ⟨b, o, e, h2 0 (by omega), h2 1 (by omega), h2 2 (by omega)⟩
set_option maxHeartbeats 3200000 in
theorem walk_DiffComposes (a : ByteArray) (ua : a.size ≤ 140737488351232) (b : ByteArray) (ub : b.size ≤ 140737488351232) (ad : Option Addr) (len cap : Nat) (l : List I3) {w : World} (hl : IsList w ad len 3 popE popOk l) (size : Int) (us : (Lit.int .i64 size).wf = true) : Calls Try.prog 5 #[.string a, .string b, .slice ad len cap, .int .i64 size] w fun e w' => e = .returned (.bool true) ∧ Below w.heap.size w w' := by
  have hse := hl.size_eq
  subst hse
  have hP := p3_of hl
  clear ua ub us hl
  have hlg := Lib.hid (fun w => long2 w 9 a b)
  cases hd : [a, b].any fun t => decide (1500 < t.size) with
  | true =>
    rw [hd] at hlg
    go_enter Try.func5, Try.ntmps5
    go_wp2_with (first | (go_at_call 7; (with_reducible refine (works_any _).mono ?_); rintro e w1 ⟨rfl, hb1⟩) | (go_at_call 8; (with_reducible refine (hlg.out _).mono ?_); rintro e w2 ⟨rfl, hb2⟩))
    go_ret
    exact ⟨rfl, bt hb1 hb2⟩
  | false =>
    rw [hd] at hlg
    by_cases h2 : 200 < l.length
    · have hd2 : decide ((200 : Int) < (l.length : Int)) = true := decide_eq_true (by omega)
      have hd3 : decide (200 < l.length) = true := decide_eq_true h2
      go_enter Try.func5, Try.ntmps5
      go_wp2_with (first | (go_at_call 7; (with_reducible refine (works_any _).mono ?_); rintro e w1 ⟨rfl, hb1⟩) | (go_at_call 8; (with_reducible refine (hlg.out _).mono ?_); rintro e w2 ⟨rfl, hb2⟩))
      go_ret
      exact ⟨rfl, bt hb1 hb2⟩
    · have hd2 : decide ((200 : Int) < (l.length : Int)) = false := decide_eq_false (by omega)
      have hd3 : decide (200 < l.length) = false := decide_eq_false h2
      have ha : a.size ≤ 1500 := by simp at hd; omega
      obtain ⟨S, hS⟩ : ∃ S, cmpS a b l = S := ⟨_, rfl⟩
      obtain ⟨E, hE⟩ : ∃ E, cmpE a b l = E := ⟨_, rfl⟩
      obtain ⟨F, hF⟩ : ∃ F, chkE l size = F := ⟨_, rfl⟩
      have h1 := fun w h => compose_any a b ad cap l w h (by omega) ha
      have h3 := fun w h => rcompose_any a b ad cap l w h (by omega) ha
      have h4 := fun w h => check_any ad cap l size w h (by omega)
      have h5 := fun w h => rcheck_any ad cap l size w h (by omega)
      rw [hS, hE] at h1 h3
      rw [hF] at h4 h5
      have h1 := Lib.hid h1
      have h3 := Lib.hid h3
      have h4 := Lib.hid h4
      have h5 := Lib.hid h5
      have e1 := bse S
      have hP := Lib.hid hP
      clear hd h2 hS hE hF
      go_enter Try.func5, Try.ntmps5
      go_wp2_with (first | (go_at_call 7; (with_reducible refine (works_any _).mono ?_); rintro e w1 ⟨rfl, hb1⟩) | (go_at_call 8; (with_reducible refine (hlg.out _).mono ?_); rintro e w2 ⟨rfl, hb2⟩) | (go_at_call 17; (with_reducible refine (h1.out _ (hP.out.keep (bt hb1 hb2))).mono ?_); rintro e w3 ⟨rfl, hb3⟩) | (go_at_call 18; (with_reducible refine (h3.out _ (hP.out.keep (bt (bt hb1 hb2) hb3))).mono ?_); rintro e w4 ⟨rfl, hb4⟩) | (go_at_call 19; (with_reducible refine (h4.out _ (hP.out.keep (bt (bt (bt hb1 hb2) hb3) hb4))).mono ?_); rintro e w5 ⟨rfl, hb5⟩) | (go_at_call 20; (with_reducible refine (h5.out _ (hP.out.keep (bt (bt (bt (bt hb1 hb2) hb3) hb4) hb5))).mono ?_); rintro e w6 ⟨rfl, hb6⟩))
      go_ret
      exact ⟨rfl, bt (bt (bt (bt (bt hb1 hb2) hb3) hb4) hb5) hb6⟩
end Go.Proofs.Ytlmmmibnnbceeaa
