/-
  What is owed: it works.
-/
import Derived.Test.YtdaobfhkdbaklaaOwed5
namespace Go.Proofs.Ytdaobfhkdbaklaa
open Go.RowKit
set_option linter.unusedVariables false
set_option linter.unusedSimpArgs false

theorem belowO {a b c : World} {S : Nat → Prop} (h : Below a.heap.size a b) (hf : Frm S b c) (hs : ∀ k, S k → a.heap.size ≤ k) : Below a.heap.size a c :=
  ⟨hf.os.trans h.os, hf.tape.trans h.tape, hf.output.trans h.output, Nat.le_trans h.size hf.size, fun k hk => (hf.block k (Nat.lt_of_lt_of_le hk h.size) (fun hx => by have := hs k hx; omega)).trans (h.block k hk)⟩
theorem oadd_of {w : World} {o h s gM many : Nat} {bs cs : List Nat} (H : OW w o h s gM many bs cs) {i k : Int} {b : Bool} {cs' : List Nat} (h1 : addB many cs i k = b) (h2 : addC many cs i k = cs') : Calls Try.prog 7 #[.pointer (some ⟨o, 0, none⟩), .int .i64 i, .int .i64 k] w (OAddP w o h s gM many cs' b) := h1 ▸ h2 ▸ oadd_any o h s gM many bs cs i k w H
def OPayK (w : World) (o h s gM many : Nat) (cs' : List Nat) (p k : Nat) (e : Ending) (w' : World) : Prop := e = .returned (.tuple #[.int .i64 p, .int .i64 k, .bool true]) ∧ (∃ bs', OW w' o h s gM many bs' cs') ∧ Frm (fun k => k = h ∨ k = gM ∨ w.heap.size ≤ k) w w'
theorem opay_of {w : World} {o h s gM many : Nat} {bs cs : List Nat} (H : OW w o h s gM many bs cs) {f : Int} (hf : -9223372036854775808 ≤ f ∧ f ≤ 9223372036854775807) {p k : Nat} {cs' : List Nat} (hn : nextC cs f = ((p : Int), true)) (hk : tzK (cs.getD p 0) = k) (hc : cs.set p (offC (cs.getD p 0)) = cs') : Calls Try.prog 8 #[.pointer (some ⟨o, 0, none⟩), .int .i64 f] w (OPayK w o h s gM many cs' p k) := by
  refine (opay_any o h s gM many bs cs f w H hf).mono ?_
  rintro e w' (⟨h1, _⟩ | ⟨p', h1, h2, h3, h4⟩)
  · rw [H.next, hn] at h1
    simp at h1
  · rw [H.next, hn] at h1
    have hp : p = p' := by simp at h1; omega
    subst hp
    subst hk
    subst hc
    exact ⟨h2, h3, h4⟩
theorem opay_no {w : World} {o h s gM many : Nat} {bs cs : List Nat} (H : OW w o h s gM many bs cs) {f : Int} (hf : -9223372036854775808 ≤ f ∧ f ≤ 9223372036854775807) (hn : nextC cs f = (0, false)) : Calls Try.prog 8 #[.pointer (some ⟨o, 0, none⟩), .int .i64 f] w (OPayN w o h s gM many bs cs) := by
  refine (opay_any o h s gM many bs cs f w H hf).mono ?_
  rintro e w' (⟨_, h1⟩ | ⟨p', h1, _⟩)
  · exact h1
  · rw [H.next, hn] at h1
    simp at h1
set_option maxHeartbeats 1600000 in
theorem oworks_any (w : World) : Calls Try.prog 5 #[] w fun e w' => e = .returned (.bool true) ∧ Below w.heap.size w w' := by
  have hN := Lib.hid (onew_any 3 w (by decide))
  go_enter Try.func5, Try.ntmps5
  go_wp2_with (first | (go_at_call 6; (with_reducible refine hN.out.mono ?_); rintro e w1 ⟨o, h, s, gM, bs1, rfl, H1, ho, hh, hs, hg, hb1, _⟩; have H1 : OW w1 o h s gM 3 bs1 [0, 0, 0] := H1) | (go_at_call 7; (with_reducible refine (oadd_of H1 (i := 2) (k := 5) (b := true) (cs' := [0, 0, 32]) (by decide) (by decide)).mono ?_); rintro e w2 ⟨rfl, ⟨bs2, H2⟩, hf2⟩) | (go_at_call 7; (with_reducible refine (oadd_of H2 (i := 2) (k := 3) (b := true) (cs' := [0, 0, 40]) (by decide) (by decide)).mono ?_); rintro e w3 ⟨rfl, ⟨bs3, H3⟩, hf3⟩) | (go_at_call 7; (with_reducible refine (oadd_of H3 (i := 1) (k := 1) (b := true) (cs' := [0, 2, 40]) (by decide) (by decide)).mono ?_); rintro e w4 ⟨rfl, ⟨bs4, H4⟩, hf4⟩) | (go_at_call 7; (with_reducible refine (oadd_of H4 (i := 1) (k := 1) (b := false) (cs' := [0, 2, 40]) (by decide) (by decide)).mono ?_); rintro e w5 ⟨rfl, ⟨bs5, H5⟩, hf5⟩) | (go_at_call 8; (with_reducible refine (opay_of H5 (f := 2) (by decide) (p := 2) (k := 3) (cs' := [0, 2, 32]) (by decide) (by decide) (by decide)).mono ?_); rintro e w6 ⟨rfl, ⟨bs6, H6⟩, hf6⟩) | (go_at_call 8; (with_reducible refine (opay_of H6 (f := 3) (by decide) (p := 1) (k := 1) (cs' := [0, 0, 32]) (by decide) (by decide) (by decide)).mono ?_); rintro e w7 ⟨rfl, ⟨bs7, H7⟩, hf7⟩) | (go_at_call 9; have hL7 := olen_any _ _ _ _ _ _ _ _ H7; rw [show lenC [0, 0, 32] = 1 from by decide] at hL7; (with_reducible refine hL7.mono ?_); rintro e wx ⟨rfl, rfl⟩))
  go_ret
  have hS : ∀ W : World, Below w.heap.size w W → ∀ k, (k = h ∨ k = gM ∨ W.heap.size ≤ k) → w.heap.size ≤ k := fun W hW k hk => by have := hW.size; omega
  have hb2 := belowO hb1 hf2 (hS _ hb1)
  have hb3 := belowO hb2 hf3 (hS _ hb2)
  have hb4 := belowO hb3 hf4 (hS _ hb3)
  have hb5 := belowO hb4 hf5 (hS _ hb4)
  have hb6 := belowO hb5 hf6 (hS _ hb5)
  exact ⟨rfl, belowO hb6 hf7 (hS _ hb6)⟩
end Go.Proofs.Ytdaobfhkdbaklaa
