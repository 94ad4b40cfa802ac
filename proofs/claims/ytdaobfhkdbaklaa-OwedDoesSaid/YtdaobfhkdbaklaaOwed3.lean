/-
  What is owed: paid.
-/
import Derived.Test.YtdaobfhkdbaklaaOwed2
import Derived.BigRegion
namespace Go.Proofs.Ytdaobfhkdbaklaa
open Go.RowKit
set_option linter.unusedVariables false
set_option linter.unusedSimpArgs false

theorem selF_mem (bs : List Nat) (a k : Nat) : ∀ x ∈ selF bs a k, ∃ p : Nat, x = p ∧ p < k ∧ bit bs p = true := by
  intro x hx
  unfold selF at hx
  obtain ⟨p, hp, rfl⟩ := List.mem_map.1 hx
  obtain ⟨h1, h2⟩ := List.mem_filter.1 hp
  simp at h2
  exact ⟨p, rfl, List.mem_range.1 h1, h2.2⟩
theorem nextM_eq (bs : List Nat) (many : Nat) (f : Int) : nextM bs many f = (match selF bs (max f 0).toNat many with | x :: _ => (x, true) | [] => match selF bs 0 many with | x :: _ => (x, true) | [] => (0, false)) := rfl
theorem nextM_true (bs : List Nat) (many : Nat) (f : Int) (h : (nextM bs many f).2 = true) : ∃ p : Nat, nextM bs many f = ((p : Int), true) ∧ p < many ∧ bit bs p = true := by
  rw [nextM_eq] at h ⊢
  have mA := selF_mem bs (max f 0).toNat many
  have mB := selF_mem bs 0 many
  generalize selF bs (max f 0).toNat many = A at *
  generalize selF bs 0 many = B at *
  cases A with
  | cons x r =>
    obtain ⟨p, rfl, h1, h2⟩ := mA x (by simp)
    exact ⟨p, rfl, h1, h2⟩
  | nil =>
    cases B with
    | cons x r =>
      obtain ⟨p, rfl, h1, h2⟩ := mB x (by simp)
      exact ⟨p, rfl, h1, h2⟩
    | nil => simp at h
theorem nextM_false (bs : List Nat) (many : Nat) (f : Int) (h : (nextM bs many f).2 = false) : nextM bs many f = (0, false) ∧ ∀ j, j < many → bit bs j = false := by
  rw [nextM_eq] at h ⊢
  have mB : ∀ j, j < many → bit bs j = true → (j : Int) ∈ selF bs 0 many := fun j hj hb => by
    unfold selF
    exact List.mem_map.2 ⟨j, List.mem_filter.2 ⟨List.mem_range.2 hj, by simp [hb]⟩, rfl⟩
  generalize selF bs (max f 0).toNat many = A at *
  generalize selF bs 0 many = B at *
  cases A with
  | cons x r => simp at h
  | nil =>
    cases B with
    | cons x r => simp at h
    | nil =>
      refine ⟨rfl, fun j hj => ?_⟩
      cases hb : bit bs j with
      | false => rfl
      | true => have := mB j hj hb; simp at this
/-- the kind that is paid, and what is left -/
def tzK (c : Nat) : Nat := Lib.trailingZeros8 c
def offC (c : Nat) : Nat := c ^^^ 2 ^ tzK c
theorem pay_facts (c : Nat) (hc : c < 128 ∧ c % 2 = 0) (h0 : c ≠ 0) : 1 ≤ tzK c ∧ tzK c ≤ 6 ∧ c.testBit (tzK c) = true ∧ offC c < 128 ∧ offC c % 2 = 0 ∧ bits .and .u8 (c : Int) (((c : Int) - 1) % 256) = (offC c : Int) := by
  have h : ∀ c : Fin 128, c.val % 2 = 0 → c.val ≠ 0 → 1 ≤ tzK c.val ∧ tzK c.val ≤ 6 ∧ c.val.testBit (tzK c.val) = true ∧ offC c.val < 128 ∧ offC c.val % 2 = 0 ∧ bits .and .u8 ((c.val : Nat) : Int) ((((c.val : Nat) : Int) - 1) % 256) = ((offC c.val : Nat) : Int) := by decide +kernel
  exact h ⟨c, hc.1⟩ hc.2 h0
def OPayN (w : World) (o h s gM many : Nat) (bs cs : List Nat) (e : Ending) (w' : World) : Prop := e = .returned (.tuple #[.int .i64 0, .int .i64 0, .bool false]) ∧ OW w' o h s gM many bs cs ∧ Below w.heap.size w w'
def OPayP (w : World) (o h s gM many : Nat) (cs : List Nat) (p : Nat) (e : Ending) (w' : World) : Prop := e = .returned (.tuple #[.int .i64 p, .int .i64 (tzK (cs.getD p 0)), .bool true]) ∧ (∃ bs', OW w' o h s gM many bs' (cs.set p (offC (cs.getD p 0)))) ∧ Frm (fun k => k = h ∨ k = gM ∨ w.heap.size ≤ k) w w'
set_option maxHeartbeats 1600000 in
theorem opay_any (o h s gM many : Nat) (bs cs : List Nat) (f : Int) (w : World) (H : OW w o h s gM many bs cs) (hf : -9223372036854775808 ≤ f ∧ f ≤ 9223372036854775807) : Calls Try.prog 8 #[.pointer (some ⟨o, 0, none⟩), .int .i64 f] w fun e w' =>
    ((nextM bs many f).2 = false ∧ OPayN w o h s gM many bs cs e w') ∨ (∃ p : Nat, nextM bs many f = ((p : Int), true) ∧ OPayP w o h s gM many cs p e w') := by
  have hP := pnext_any s gM many bs f w H.m hf
  have hc0 := H.c0
  have hc1 := H.c1
  cases hnx : (nextM bs many f).2 with
  | false =>
    obtain ⟨e1, _⟩ := nextM_false bs many f hnx
    rw [e1] at hP
    have hX : ∀ w', Below w.heap.size w w' → OPayN w o h s gM many bs cs (.returned (.tuple #[.int .i64 0, .int .i64 0, .bool false])) w' := fun w' hb => ⟨rfl, H.below hb, hb⟩
    have hX := Lib.hid hX
    have hP := Lib.hid hP
    clear H
    go_enter Try.func8, Try.ntmps8
    go_wp2_with (go_at_call 23; (with_reducible refine hP.out.mono ?_); rintro e w1 ⟨rfl, hb1⟩)
    go_ret3
    first | exact .inl ⟨trivial, hX.out _ hb1⟩ | exact .inl ⟨rfl, hX.out _ hb1⟩
  | true =>
    obtain ⟨p, e1, hpm, hbp⟩ := nextM_true bs many f hnx
    have hpl : p < cs.length := by rw [H.len]; exact hpm
    have hrel := H.rel p hpl
    rw [hbp] at hrel
    have hne : cs[p] ≠ 0 := by simpa using hrel.symm
    have hgp : cs.getD p 0 = cs[p] := getD_at hpl
    obtain ⟨k1, k2, _, k4, k5, k6⟩ := pay_facts cs[p] (H.lt _ (List.getElem_mem hpl)) hne
    have hc256 : cs[p] < 256 := by have := (H.lt _ (List.getElem_mem hpl)).1; omega
    have hTz := fun w => tz_any cs[p] w hc256
    have hoh := H.oh
    have h24 := H.h24
    have hcW : ∀ W, Below w.heap.size w W → W.cell? ⟨o, 0, none⟩ = some (.pointer (some ⟨s, 0, none⟩)) ∧ W.cell? ⟨o, 1, none⟩ = some (.slice (some ⟨h, 0, none⟩) many many) ∧ W.cell? ⟨h, p, none⟩ = some (.int .u8 cs[p]) ∧ W.frozen? ⟨h, p, none⟩ = false := fun W hW => ⟨bkeep hW H.c0, bkeep hW H.c1, bkeep hW (H.b p hpl), bfree hW (H.b p hpl) (H.f p hpl)⟩
    have hM : ∀ W, Below w.heap.size w W → MS (W.setCell ⟨h, p, none⟩ (.int .u8 (offC cs[p] : Nat))) s gM many bs := fun W hW => (H.m.below hW).frm (Frm.one W h p _) (fun e => H.hs e.symm) (fun e => H.hg e.symm)
    have hX1 : offC cs[p] ≠ 0 → ∀ W, Below w.heap.size w W → OPayP w o h s gM many cs p (.returned (.tuple #[.int .i64 p, .int .i64 (tzK cs[p]), .bool true])) (W.setCell ⟨h, p, none⟩ (.int .u8 (offC cs[p] : Nat))) := fun hz W hW => by
      have hj : ∀ j, bit bs j = if j = p then decide (offC cs[p] ≠ 0) else bit bs j := fun j => by
        by_cases e : j = p
        · rw [if_pos e, decide_eq_true hz, e]; exact hbp
        · rw [if_neg e]
      have hO := (H.below hW).turned p _ hpm ⟨k4, k5⟩ bs (hM W hW) hj (Frm.refl _ _)
      exact ⟨by rw [hgp], ⟨bs, by rw [hgp]; exact hO⟩, (Frm.ofBelow hW).trans ((Frm.one W h p _).mono fun k _ e => .inl e)⟩
    have hX2 : offC cs[p] = 0 → ∀ W w3, Below w.heap.size w W → MS w3 s gM many (turnL many bs p false) → Frm (fun k => k = gM ∨ (W.setCell ⟨h, p, none⟩ (.int .u8 (offC cs[p] : Nat))).heap.size ≤ k) (W.setCell ⟨h, p, none⟩ (.int .u8 (offC cs[p] : Nat))) w3 → OPayP w o h s gM many cs p (.returned (.tuple #[.int .i64 p, .int .i64 (tzK cs[p]), .bool true])) w3 := fun hz W w3 hW hm hf => by
      have hzz : (W.setCell ⟨h, p, none⟩ (.int .u8 (offC cs[p] : Nat))).heap.size = W.heap.size := by simp
      rw [hzz] at hf
      have hj : ∀ j, bit (turnL many bs p false) j = if j = p then decide (offC cs[p] ≠ 0) else bit bs j := fun j => by
        rw [turn_rel H.m p hpm false j, decide_eq_false (by simpa using hz)]
      have hO := (H.below hW).turned p _ hpm ⟨k4, k5⟩ _ hm hj hf
      exact ⟨by rw [hgp], ⟨_, by rw [hgp]; exact hO⟩, (Frm.ofBelow hW).trans (((Frm.one W h p _).mono fun k _ e => .inl e).trans (hf.mono fun k _ e => e.elim (fun e => .inr (.inl e)) (fun e => .inr (.inr (Nat.le_trans hW.size e)))))⟩
    have hG := fun W (hW : Below w.heap.size w W) => goes_any s gM many bs p _ (hM W hW)
    rw [e1] at hP
    refine Calls.mono ?_ (fun e w' (h : OPayP w o h s gM many cs p e w') => .inr ⟨p, e1, h⟩)
    have hTz : ∀ w, Calls Try.prog 24 #[.int .u8 cs[p]] w fun e w' => e = .returned (.int .i64 (tzK cs[p])) ∧ w = w' := hTz
    have hP := Lib.hid hP
    have hG := Lib.hid hG
    have hX1 := Lib.hid hX1
    have hX2 := Lib.hid hX2
    have hTz := Lib.hid hTz
    have hcW := Lib.hid hcW
    have hbW := Lib.hid (fun W (hW : Below w.heap.size w W) a => (bdraws hW a : Below w.heap.size w (W.drewN a)))
    have hhw : h < w.heap.size := World.block_lt_of_cell? w _ (H.b p hpl)
    clear H hM e1 hnx hrel hne hgp hc256 hbp k4 k5 hf
    have hpl' := Lib.hid hpl
    generalize tzK cs[p] = kz at *
    generalize offC cs[p] = oz at *
    generalize cs[p] = c at *
    by_cases hz : oz = 0
    · have hX2z := Lib.hid (hX2.out hz)
      subst hz
      go_enter Try.func8, Try.ntmps8
      go_wp2_with (first | (go_at_call 23; (with_reducible refine hP.out.mono ?_); rintro e w1 ⟨rfl, hb1⟩; obtain ⟨c1a, c1b, c1c, c1d⟩ := hcW.out _ hb1) | (go_at_call 24; (with_reducible refine (hTz.out _).mono ?_); rintro e wx ⟨rfl, rfl⟩))
      go_region
      go_wp2_with (go_at_call 25; refine Calls.mono (hG.out w1.drew hb1.drew) ?_; rintro e w3 ⟨rfl, hm3, hf3⟩)
      go_ret3
      exact hX2z.out _ _ hb1.drew hm3 hf3
    · have hX1 := Lib.hid (hX1.out hz)
      have hzd : ((oz : Int) == 0) = false := beq_eq_false_iff_ne.2 (by omega)
      go_enter Try.func8, Try.ntmps8
      go_wp2_with (first | (go_at_call 23; (with_reducible refine hP.out.mono ?_); rintro e w1 ⟨rfl, hb1⟩; obtain ⟨c1a, c1b, c1c, c1d⟩ := hcW.out _ hb1) | (go_at_call 24; (with_reducible refine (hTz.out _).mono ?_); rintro e wx ⟨rfl, rfl⟩))
      go_region
      go_wp2
      go_ret3
      exact hX1.out _ hb1.drew
end Go.Proofs.Ytdaobfhkdbaklaa
