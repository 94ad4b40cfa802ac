/-
  The window works (chapter 27).
-/
import Derived.Test.YtjjhgpdacijlmaaWin
namespace Go.Proofs.Ytjjhgpdacijlmaa
open Go.RowKit
set_option linter.unusedVariables false
set_option linter.unusedSimpArgs false
set_option maxHeartbeats 1600000 in
theorem works_any (w : World) : Calls Try.prog 5 #[] w fun e w' => e = .returned (.bool true) ∧ Below w.heap.size w w' := by
  have hN := Lib.hid (wnew_any w)
  go_enter Try.func5, Try.ntmps5
  go_wp2_with fail
  refine hN.out.mono ?_
  rintro e w1 ⟨r, u, g, rfl, hX, ⟨hr, hu, hg⟩, hb⟩
  have h1 := Lib.hid (send_any hX (by decide) ⟨#[97]⟩)
  have hS := Lib.hid hb
  clear hb hX hN
  go_wp2_with fail
  refine h1.out.mono ?_
  rintro e w2 ⟨rfl, hX, hF⟩
  replace hS := Lib.hid (below_frmW hS.out hF (fun k hk => by rcases hk with rfl | rfl <;> omega) hS.out.size)
  simp only [List.length_nil, List.nil_append, if_pos (show (0 : Nat) < 8 by decide)] at hX ⊢
  have h2 := Lib.hid (send_any hX (by decide) ⟨#[98]⟩)
  clear hX hF h1
  go_wp2_with fail
  refine h2.out.mono ?_
  rintro e w3 ⟨rfl, hX, hF⟩
  replace hS := Lib.hid (below_frmW hS.out hF (fun k hk => by rcases hk with rfl | rfl <;> omega) hS.out.size)
  simp only [List.length_cons, List.length_nil, Nat.zero_add, if_pos (show (1 : Nat) < 8 by decide), List.cons_append, List.nil_append] at hX ⊢
  have h3 := Lib.hid (heard_any hX (by decide) 1)
  clear hX hF h2
  go_wp2_with fail
  refine h3.out.mono ?_
  rintro e w4 ⟨rfl, hX, hF⟩
  replace hS := Lib.hid (below_frmW hS.out hF (fun k hk => by rcases hk with rfl | rfl | rfl <;> omega) hS.out.size)
  have e1 : hearK [(⟨#[97]⟩ : ByteArray), ⟨#[98]⟩] 1 1 = 1 := by decide
  have e2 : hearE [(⟨#[97]⟩ : ByteArray), ⟨#[98]⟩] 1 1 = 0 := by decide
  rw [e1] at hX
  rw [e1, e2]
  have h4 := Lib.hid (room_any hX)
  have h5 := Lib.hid (fun m => take_any (hX.drewN m) (by decide) 1)
  clear hX hF h3 e1 e2
  go_wp2_with fail
  refine h4.out.mono ?_
  rintro e w5 ⟨rfl, m, rfl⟩
  go_wp2_with fail
  refine (h5.out m).mono ?_
  rintro e w6 ⟨rfl, hX, hF⟩
  replace hS := Lib.hid (below_frmW hS.out (((Frm.refl _ w4).drewN m).trans hF) (fun k hk => by rcases hk with rfl <;> omega) hS.out.size)
  rw [if_pos (by decide)] at hX
  have h6 := Lib.hid (take_any hX (by decide) 1)
  clear hX hF h5 h4
  go_wp2_with fail
  refine h6.out.mono ?_
  rintro e w7 ⟨rfl, hX, hF⟩
  replace hS := Lib.hid (below_frmW hS.out hF (fun k hk => by rcases hk with rfl <;> omega) hS.out.size)
  rw [if_neg (by decide)] at hX
  have h7 := Lib.hid (last_any hX)
  clear hX hF h6
  go_wp2_with fail
  refine h7.out.mono ?_
  rintro e w8 ⟨rfl, rfl⟩
  go_wp2
  go_ret
  exact ⟨by rfl, hS.out⟩
end Go.Proofs.Ytjjhgpdacijlmaa
