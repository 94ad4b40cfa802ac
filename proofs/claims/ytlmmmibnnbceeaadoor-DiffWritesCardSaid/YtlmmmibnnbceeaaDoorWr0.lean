/-
  Parts in writing (chapter 41): what is wrong with parts: the program's Check.
-/
import Derived.Test.YtlmmmibnnbceeaaDoorMerge4
import Derived.Test.YtlmmmibnnbceeaaDoorWrPlain
import Derived.Test.YtlmmmibnnbceeaaDoorGRow
namespace Go.Proofs.YtlmmmibnnbceeaaDoor
open Go.RowKit
set_option linter.unusedVariables false
set_option linter.unusedSimpArgs false

/-- the parts l lie behind a -/
def P3At (W : World) (a : Option Addr) (l : List I3) : Prop := ∀ (k : Nat) x, l[k]? = some x → ∃ g o, a = some ⟨g, o, none⟩ ∧ W.cell? ⟨g, o + k * 3, none⟩ = some (.int .i64 x.1) ∧ W.cell? ⟨g, o + k * 3 + 1, none⟩ = some (.int .i64 x.2.1) ∧ W.cell? ⟨g, o + k * 3 + 2, none⟩ = some (.int .i64 x.2.2)
theorem P3At.keep {W W' : World} {a : Option Addr} {l : List I3} (h : P3At W a l) (hb : Below W.heap.size W W') : P3At W' a l := by
  intro k x hk
  obtain ⟨g, o, e, h1, h2, h3⟩ := h k x hk
  exact ⟨g, o, e, bkeep hb h1, bkeep hb h2, bkeep hb h3⟩
theorem drop_at {α : Type} (l : List α) (k : Nat) (h : k < l.length) : ∃ x, l[k]? = some x ∧ l.drop k = x :: l.drop (k + 1) := ⟨l[k], List.getElem?_eq_getElem h, List.drop_eq_getElem_cons h⟩
set_option maxHeartbeats 3200000 in
theorem check_any (a : Option Addr) (cap : Nat) (l : List I3) (size : Int) (w : World) (hl : P3At w a l) (hm : l.length ≤ 1000001) :
    Calls Tryd.prog 11 #[.slice a l.length cap, .int .i64 size] w fun e w' => e = .returned (.int .i64 (chkE l size)) ∧ Below w.heap.size w w' := by
  have hl := Lib.hid hl
  by_cases h0 : l = []
  · subst h0
    have hE : chkE [] size = 8 := rfl
    rw [hE]
    go_enter Tryd.func11, Tryd.ntmps11
    go_wp2
    go_ret
    exact ⟨rfl, Below.refl _ _⟩
  · have hz : ((l.length : Int) == 0) = false := beq_eq_false_iff_ne.2 (by have := List.length_pos_iff.2 h0; omega)
    by_cases h1 : size < 1
    · have hE : chkE l size = 8 := by unfold chkE; rw [if_pos (.inr h1)]
      rw [hE]
      have hd : decide (size < 1) = true := decide_eq_true h1
      go_enter Tryd.func11, Tryd.ntmps11
      go_wp2
      go_ret
      exact ⟨rfl, Below.refl _ _⟩
    · have hd : decide (size < 1) = false := decide_eq_false h1
      obtain ⟨E, hE⟩ : ∃ E, chkE l size = E := ⟨_, rfl⟩
      have hE2 : chk size 0 l = E := by rw [← hE]; unfold chkE; rw [if_neg (by rintro (h | h); exact h0 h; exact h1 h)]
      rw [hE]
      clear h0 h1 hE
      go_enter Tryd.func11, Tryd.ntmps11
      go_wp2
      go_loopw [5, 17] (fun A i wr => ∃ (k : Nat) (c : Int), k ≤ l.length ∧ i = .int .i64 k ∧ A = .int .i64 c ∧ Hid (chk size c (l.drop k) = E) ∧ Hid (Below w.heap.size w wr)) (fun _ i _ => l.length - (intOf i).toNat)
      case atStart => exact ⟨0, 0, Nat.zero_le _, rfl, rfl, hE2, Below.refl _ _⟩
      case round =>
        obtain ⟨k, c, hk, rfl, rfl, hc, hB⟩ := hrel
        by_cases hlt : k < l.length
        · have hd2 : decide ((k : Int) < (l.length : Int)) = true := decide_eq_true (by omega)
          obtain ⟨⟨x1, x2, x3⟩, hx, hdr⟩ := drop_at l k hlt
          obtain ⟨g, o, rfl, p1, p2, p3⟩ := hl.out k _ hx
          have p1 := bkeep hB.out p1
          have p2 := bkeep hB.out p2
          have p3 := bkeep hB.out p3
          have i1 : (0 : Int) ≤ (k : Int) := by omega
          have i2 : (k : Int) < (l.length : Int) := by omega
          have hst := hc.out
          rw [hdr] at hst
          unfold chk at hst
          have hfin := Lib.hid (bt hB.out (alb' _ (.cells #[.int .i64 x1, .int .i64 x2, .int .i64 x3] 42)))
          clear hx hdr hc
          by_cases q1 : x1 = c
          · subst q1
            by_cases q2 : x2 ≤ x1
            · have hq2 : decide (x2 ≤ x1) = true := decide_eq_true q2
              rw [if_pos (.inr (.inl q2))] at hst
              subst hst
              go_wp2
              go_ret
              exact ⟨rfl, hfin.out⟩
            · have hq2 : decide (x2 ≤ x1) = false := decide_eq_false q2
              by_cases q3 : size < x2
              · have hq3 : decide (size < x2) = true := decide_eq_true q3
                rw [if_pos (.inr (.inr q3))] at hst
                subst hst
                go_wp2
                go_ret
                exact ⟨rfl, hfin.out⟩
              · have hq3 : decide (size < x2) = false := decide_eq_false q3
                rw [if_neg (by rintro (h | h | h); exact h rfl; exact q2 h; exact q3 h)] at hst
                by_cases q4 : x3 = 0
                · subst q4
                  rw [if_neg (by simp)] at hst
                  have hst := Lib.hid hst
                  go_wp2
                  exact ⟨⟨k + 1, x2, by omega, by go_num, rfl, hst, hfin⟩, by simp [intOf]; omega⟩
                · have hq4 : (x3 == 0) = false := beq_eq_false_iff_ne.2 q4
                  have hq4' : (x3 != 0) = true := by simp [bne, hq4]
                  by_cases q5 : x3 = 1
                  · subst q5
                    rw [if_neg (by simp)] at hst
                    have hst := Lib.hid hst
                    go_wp2
                    exact ⟨⟨k + 1, x2, by omega, by go_num, rfl, hst, hfin⟩, by simp [intOf]; omega⟩
                  · have hq5 : (x3 == 1) = false := beq_eq_false_iff_ne.2 q5
                    have hq5' : (x3 != 1) = true := by simp [bne, hq5]
                    rw [if_pos ⟨q4, q5⟩] at hst
                    subst hst
                    go_wp2
                    go_ret
                    exact ⟨rfl, hfin.out⟩
          · have hq1 : (x1 == c) = false := beq_eq_false_iff_ne.2 q1
            have hq1' : (x1 != c) = true := by simp [bne, hq1]
            rw [if_pos (.inl q1)] at hst
            subst hst
            go_wp2
            go_ret
            exact ⟨rfl, hfin.out⟩
        · have hd2 : decide ((k : Int) < (l.length : Int)) = false := decide_eq_false (by omega)
          have hst := hc.out
          rw [List.drop_eq_nil_of_le (by omega)] at hst
          unfold chk at hst
          by_cases q : c < size
          · have hq : decide (c < size) = true := decide_eq_true q
            rw [if_pos q] at hst
            subst hst
            go_wp2
            go_ret
            exact ⟨rfl, hB.out⟩
          · have hq : decide (c < size) = false := decide_eq_false q
            rw [if_neg q] at hst
            subst hst
            go_wp2
            go_ret
            exact ⟨rfl, hB.out⟩
end Go.Proofs.YtlmmmibnnbceeaaDoor
