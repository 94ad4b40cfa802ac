/-
  What is owed: dropped.
-/
import Derived.Test.YtdaobfhkdbaklaaOwed7
namespace Go.Proofs.Ytdaobfhkdbaklaa
open Go.RowKit
set_option linter.unusedVariables false
set_option linter.unusedSimpArgs false

def dropN (many : Nat) (cs : List Nat) (i : Int) : Nat := if 0 ≤ i ∧ i < many then Lib.onesCount (cs.getD i.toNat 0) else 0
def dropC (many : Nat) (cs : List Nat) (i : Int) : List Nat := if 0 ≤ i ∧ i < many then cs.set i.toNat 0 else cs
def ODropP (w : World) (o h s gM many : Nat) (cs' : List Nat) (n : Nat) (e : Ending) (w' : World) : Prop := e = .returned (.int .i64 n) ∧ (∃ bs', OW w' o h s gM many bs' cs') ∧ Frm (fun k => k = h ∨ k = gM ∨ w.heap.size ≤ k) w w'
set_option maxHeartbeats 800000 in
theorem odrop_any (o h s gM many : Nat) (bs cs : List Nat) (i : Int) (w : World) (H : OW w o h s gM many bs cs) : Calls Try.prog 13 #[.pointer (some ⟨o, 0, none⟩), .int .i64 i] w (ODropP w o h s gM many (dropC many cs i) (dropN many cs i)) := by
  have hc0 := H.c0
  have hc1 := H.c1
  have h24 := H.h24
  by_cases hin : 0 ≤ i ∧ i < many
  · obtain ⟨p, rfl⟩ : ∃ p : Nat, i = p := ⟨i.toNat, by omega⟩
    have hpm : p < many := by omega
    have hpl : p < cs.length := by rw [H.len]; exact hpm
    have hdn : dropN many cs p = Lib.onesCount cs[p] := by unfold dropN; rw [if_pos hin, Int.toNat_natCast, getD_at hpl]
    have hdc : dropC many cs p = cs.set p 0 := by unfold dropC; rw [if_pos hin, Int.toNat_natCast]
    rw [hdn, hdc]
    have hcell := H.b p hpl
    have hfz := H.f p hpl
    have hO := ones_any cs[p] w (by have := (H.lt _ (List.getElem_mem hpl)).1; omega)
    have hM := H.m.frm (Frm.one w h p (.int .u8 ((0 : Nat) : Int))) (fun e => H.hs e.symm) (fun e => H.hg e.symm)
    have hG := goes_any s gM many bs p _ hM
    have hX : ∀ w3, MS w3 s gM many (turnL many bs p false) → Frm (fun k => k = gM ∨ (w.setCell ⟨h, p, none⟩ (.int .u8 ((0 : Nat) : Int))).heap.size ≤ k) (w.setCell ⟨h, p, none⟩ (.int .u8 ((0 : Nat) : Int))) w3 → ODropP w o h s gM many (cs.set p 0) (Lib.onesCount cs[p]) (.returned (.int .i64 (Lib.onesCount cs[p]))) w3 := by
      intro w3 hm hf
      have hz : (w.setCell ⟨h, p, none⟩ (.int .u8 ((0 : Nat) : Int))).heap.size = w.heap.size := by simp
      rw [hz] at hf
      exact ⟨rfl, ⟨_, H.turned p 0 hpm (by decide) _ hm (fun j => by rw [turn_rel H.m p hpm false j]; rfl) hf⟩, ((Frm.one w h p _).mono fun k _ e => .inl e).trans (hf.mono fun k _ e => .inr e)⟩
    have hc0' := (Frm.one w h p (.int .u8 ((0 : Nat) : Int))).cell (p := ⟨o, 0, none⟩) H.oh H.c0
    simp only [Int.cast_ofNat_Int] at hX hG hc0'
    have hX := Lib.hid hX
    have hG := Lib.hid hG
    have hO := Lib.hid hO
    have g1 : decide ((p : Int) < 0) = false := decide_eq_false (by omega)
    have g2 : decide ((many : Int) ≤ (p : Int)) = false := decide_eq_false (by omega)
    clear H hM hdn hdc hin
    have hpl' := Lib.hid hpl
    generalize Lib.onesCount cs[p] = n1 at *
    generalize cs[p] = c at *
    go_enter Try.func13, Try.ntmps13
    go_wp2_with (first | (go_at_call 26; (with_reducible refine hO.out.mono ?_); rintro e w1 ⟨rfl, rfl⟩) | (go_at_call 25; (with_reducible refine hG.out.mono ?_); rintro e w3 ⟨rfl, hm3, hf3⟩))
    go_ret
    exact hX.out _ hm3 hf3
  · have hdn : dropN many cs i = 0 := by unfold dropN; rw [if_neg hin]
    have hdc : dropC many cs i = cs := by unfold dropC; rw [if_neg hin]
    rw [hdn, hdc]
    have hP : ODropP w o h s gM many cs 0 (.returned (.int .i64 0)) w := ⟨rfl, ⟨bs, H⟩, Frm.refl _ _⟩
    have hP := Lib.hid hP
    clear H hdn hdc
    by_cases h2 : i < 0
    · have g1 : decide (i < 0) = true := decide_eq_true h2
      go_enter Try.func13, Try.ntmps13
      go_wp2
      go_ret
      exact hP.out
    · have g1 : decide (i < 0) = false := decide_eq_false h2
      have g2 : decide ((many : Int) ≤ i) = true := decide_eq_true (by omega)
      clear hin h2
      go_enter Try.func13, Try.ntmps13
      go_wp2
      go_ret
      exact hP.out
end Go.Proofs.Ytdaobfhkdbaklaa
