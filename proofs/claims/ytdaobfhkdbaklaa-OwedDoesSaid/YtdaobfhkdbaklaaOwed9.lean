/-
  What is owed: cleared.
-/
import Derived.Test.YtdaobfhkdbaklaaOwed8
namespace Go.Proofs.Ytdaobfhkdbaklaa
open Go.RowKit
set_option linter.unusedVariables false
set_option linter.unusedSimpArgs false

def ClR (w : World) (o h s gM many : Nat) (i : Value) (wr : World) : Prop := ∃ j : Nat, j ≤ many ∧ i = .int .i64 j ∧ (∃ bs cs, OW wr o h s gM many bs cs ∧ ∀ x, x < j → cs.getD x 0 = 0) ∧ Frm (fun k => k = h ∨ k = gM ∨ w.heap.size ≤ k) w wr
theorem oclear_any (o h s gM many : Nat) (bs cs : List Nat) (w : World) (H : OW w o h s gM many bs cs) : Calls Try.prog 15 #[.pointer (some ⟨o, 0, none⟩)] w fun e w' => e = .returned (.tuple #[]) ∧ (∃ bs', OW w' o h s gM many bs' (List.replicate many 0)) ∧ Frm (fun k => k = h ∨ k = gM ∨ w.heap.size ≤ k) w w' := by
  have hc1 := H.c1
  have h24 := H.h24
  have h0 : ClR w o h s gM many (.int .i64 0) w := ⟨0, Nat.zero_le _, rfl, ⟨bs, cs, H, fun x hx => by omega⟩, Frm.refl _ _⟩
  clear H
  go_enter Try.func15, Try.ntmps15
  go_wp2
  go_loopw [10] (fun i wr => ClR w o h s gM many i wr) (fun i _ => many - (intOf i).toNat)
  case atStart => exact h0
  case round =>
    obtain ⟨j, hj, rfl, ⟨bs1, cs1, H1, hz⟩, hf⟩ := hrel
    by_cases hlt : j < many
    · have hD := odrop_any o h s gM many bs1 cs1 j wr H1
      have hX : ∀ w', (∃ bs', OW w' o h s gM many bs' (dropC many cs1 j)) → Frm (fun k => k = h ∨ k = gM ∨ wr.heap.size ≤ k) wr w' → ClR w o h s gM many (.int .i64 ((j : Int) + 1)) w' := by
        rintro w' ⟨bs', hw⟩ hf'
        refine ⟨j + 1, by omega, by go_num, ⟨bs', _, hw, fun x hx => ?_⟩, hf.trans (hf'.mono fun k _ e => e.imp id (fun e => e.imp id (fun e => Nat.le_trans hf.size e)))⟩
        unfold dropC
        rw [if_pos ⟨by omega, by omega⟩, Int.toNat_natCast]
        by_cases e : x = j
        · subst e
          rw [List.getD_eq_getElem?_getD, List.getElem?_set_self (by rw [H1.len]; exact hlt)]; rfl
        · rw [List.getD_eq_getElem?_getD, List.getElem?_set_ne (fun e' => e e'.symm), ← List.getD_eq_getElem?_getD]
          exact hz x (by omega)
      have hX := Lib.hid hX
      have hD := Lib.hid hD
      have hjd : ((j : Int) < (many : Int)) := by omega
      clear H1 hz hf h0
      go_wp2_with (go_at_call 13; (with_reducible refine hD.out.mono ?_); rintro e w1 ⟨rfl, h1, hf1⟩)
      exact ⟨hX.out _ h1 hf1, by simp [intOf]; omega⟩
    · have hjd : ¬ ((j : Int) < (many : Int)) := by omega
      have hcs : cs1 = List.replicate many 0 := by
        apply List.ext_getElem (by rw [H1.len, List.length_replicate])
        intro x h1 h2
        rw [List.getElem_replicate, ← getD_at h1]
        exact hz x (by have := H1.len; omega)
      subst hcs
      have hfin : (∃ bs', OW wr o h s gM many bs' (List.replicate many 0)) ∧ Frm (fun k => k = h ∨ k = gM ∨ w.heap.size ≤ k) w wr := ⟨⟨bs1, H1⟩, hf⟩
      have hfin := Lib.hid hfin
      clear H1 hz hf h0
      go_wp2
      go_end0
      exact ⟨rfl, hfin.out⟩
end Go.Proofs.Ytdaobfhkdbaklaa
