/-
  What is owed: added, counted.
-/
import Derived.Test.YtdaobfhkdbaklaaOwed
namespace Go.Proofs.Ytdaobfhkdbaklaa
open Go.RowKit
set_option linter.unusedVariables false
set_option linter.unusedSimpArgs false

theorem turn_rel {w : World} {s g many : Nat} {bs : List Nat} (h : MS w s g many bs) (p : Nat) (hp : p < many) (is : Bool) (j : Nat) : bit (turnL many bs p is) j = if j = p then is else bit bs j := by
  have hn := h.hn
  unfold turnL turnB
  simp only [Int.toNat_natCast]
  rw [decide_eq_true (show 0 ≤ (p : Int) by omega), decide_eq_true (show (p : Int) < many by omega), Bool.true_and, Bool.true_and]
  by_cases hb : bit bs p = is
  · rw [hb]
    simp only [bne_self_eq_false, Bool.false_eq_true, if_false]
    by_cases e : j = p
    · rw [if_pos e, e]; exact hb
    · rw [if_neg e]
  · have hne : (bit bs p != is) = true := by simpa using hb
    rw [hne]
    simp only [if_true]
    rw [flip_bit _ _ _ (by omega)]
    by_cases e : j = p
    · rw [if_pos e, e]
      revert hb
      cases bit bs p <;> cases is <;> simp
    · rw [if_neg e, decide_eq_false e]
      simp
/-- one place's kinds are changed, the set follows -/
theorem OW.turned {w w3 : World} {o h s gM many : Nat} {bs cs : List Nat} (H : OW w o h s gM many bs cs) (p c : Nat) (hp : p < many) (hc : c < 128 ∧ c % 2 = 0) (bs' : List Nat)
    (hm : MS w3 s gM many bs') (hb : ∀ j, bit bs' j = if j = p then decide (c ≠ 0) else bit bs j) (hf : Frm (fun k => k = gM ∨ w.heap.size ≤ k) (w.setCell ⟨h, p, none⟩ (.int .u8 c)) w3) :
    OW w3 o h s gM many bs' (cs.set p c) := by
  have hpl : p < cs.length := by rw [H.len]; exact hp
  have hhw : h < w.heap.size := World.block_lt_of_cell? w _ (H.b p hpl)
  have how : o < w.heap.size := World.block_lt_of_cell? w _ H.c0
  have no : ¬ (o = gM ∨ w.heap.size ≤ o) := by have := H.og; omega
  have nh : ¬ (h = gM ∨ w.heap.size ≤ h) := by have := H.hg; omega
  have hl : (cs.set p c).length = cs.length := List.length_set
  refine ⟨hf.cell (p := ⟨o, 0, none⟩) no ((Frm.one _ h p _).cell (p := ⟨o, 0, none⟩) H.oh H.c0), hf.cell (p := ⟨o, 1, none⟩) no ((Frm.one _ h p _).cell (p := ⟨o, 1, none⟩) H.oh H.c1), fun j hj => ?_, fun j hj => ?_, hm, hl.trans H.len, fun x hx => ?_, fun j hj => ?_, H.oh, H.og, H.hs, H.hg, H.h24⟩
  · rw [hl] at hj
    refine hf.cell (p := ⟨h, j, none⟩) nh ?_
    by_cases e : p = j
    · subst e
      rw [List.getElem_set_self]
      exact cell_same (H.b p hj)
    · rw [List.getElem_set_ne e]
      exact cell_off (H.b j hj) e
  · rw [hl] at hj
    exact (hf.frozen (p := ⟨h, j, none⟩) nh (by simpa using hhw)).trans ((World.frozen?_setCell _ _ _ _).trans (H.f j hj))
  · rcases List.mem_or_eq_of_mem_set hx with h1 | rfl
    · exact H.lt x h1
    · exact hc
  · rw [hl] at hj
    rw [hb]
    by_cases e : p = j
    · subst e
      rw [if_pos rfl, List.getElem_set_self]
    · rw [if_neg (fun e' => e e'.symm), List.getElem_set_ne e]
      exact H.rel j hj
def OAddP (w : World) (o h s gM many : Nat) (cs' : List Nat) (b : Bool) (e : Ending) (w' : World) : Prop := e = .returned (.bool b) ∧ (∃ bs', OW w' o h s gM many bs' cs') ∧ Frm (fun k => k = h ∨ k = gM ∨ w.heap.size ≤ k) w w'
set_option maxHeartbeats 800000 in
theorem oadd_any (o h s gM many : Nat) (bs cs : List Nat) (i k : Int) (w : World) (H : OW w o h s gM many bs cs) : Calls Try.prog 7 #[.pointer (some ⟨o, 0, none⟩), .int .i64 i, .int .i64 k] w (OAddP w o h s gM many (addC many cs i k) (addB many cs i k)) := by
  have hB := bit_any o h s gM many bs cs i k w H
  have hc0 := H.c0
  have hc1 := H.c1
  have h24 := H.h24
  by_cases hin : 0 ≤ i ∧ i < many ∧ 1 ≤ k ∧ k ≤ 6
  · obtain ⟨p, rfl⟩ : ∃ p : Nat, i = p := ⟨i.toNat, by omega⟩
    obtain ⟨q, rfl⟩ : ∃ q : Nat, k = q := ⟨k.toNat, by omega⟩
    have hpm : p < many := by omega
    have hpl : p < cs.length := by rw [H.len]; exact hpm
    have hib : inB many p q = true := decide_eq_true hin
    have hv : bitV many p q = ((2 ^ q : Nat) : Int) := by unfold bitV; rw [hib, if_pos rfl, Int.toNat_natCast]
    have hcell := H.b p hpl
    have hfz := H.f p hpl
    obtain ⟨hlt, hev⟩ := H.lt _ (List.getElem_mem hpl)
    have hand := u8_and cs[p] q (by omega) (by omega)
    have hor := u8_or cs[p] q (by omega) (by omega)
    have hok := u8_or_ok cs[p] q ⟨hlt, hev⟩ (by omega)
    have hgp : cs.getD p 0 = cs[p] := getD_at hpl
    have hnz : (((2 ^ q : Nat) : Int) == 0) = false := by
      have : 0 < 2 ^ q := Nat.pow_pos (by decide)
      exact beq_eq_false_iff_ne.2 (by omega)
    have hab : addB many cs p q = !(cs[p].testBit q) := by unfold addB; rw [hib, Bool.true_and, Int.toNat_natCast, Int.toNat_natCast, hgp]
    have hac : addC many cs p q = if (!(cs[p].testBit q)) then cs.set p (cs[p] ||| 2 ^ q) else cs := by unfold addC; rw [hab, Int.toNat_natCast, Int.toNat_natCast, hgp]
    rw [hv] at hB
    rw [hab, hac]
    have hB := Lib.hid hB
    cases ht : cs[p].testBit q with
    | true =>
      rw [ht] at hand
      have hP : OAddP w o h s gM many cs false (.returned (.bool false)) w := ⟨rfl, ⟨bs, H⟩, Frm.refl _ _⟩
      have hP := Lib.hid hP
      simp only [Bool.not_true, Bool.false_eq_true, if_false]
      clear H hv hor hok hab hac hgp ht
      generalize cs[p] = c at *
      generalize ((2 ^ q : Nat) : Int) = v at *
      go_enter Try.func7, Try.ntmps7
      go_wp2_with (go_at_call 21; (with_reducible refine hB.out.mono ?_); rintro e w1 ⟨rfl, rfl⟩)
      go_ret
      exact hP.out
    | false =>
      rw [ht] at hand
      have hX : ∀ w3, MS w3 s gM many (turnL many bs p true) → Frm (fun k => k = gM ∨ (w.setCell ⟨h, p, none⟩ (.int .u8 ((cs[p] ||| 2 ^ q : Nat) : Int))).heap.size ≤ k) (w.setCell ⟨h, p, none⟩ (.int .u8 ((cs[p] ||| 2 ^ q : Nat) : Int))) w3 → OAddP w o h s gM many (cs.set p (cs[p] ||| 2 ^ q)) true (.returned (.bool true)) w3 := by
        intro w3 hm hf
        have hz : (w.setCell ⟨h, p, none⟩ (.int .u8 ((cs[p] ||| 2 ^ q : Nat) : Int))).heap.size = w.heap.size := by simp
        rw [hz] at hf
        refine ⟨rfl, ⟨_, H.turned p _ hpm ⟨hok.1, hok.2.1⟩ _ hm (fun j => ?_) hf⟩, ((Frm.one w h p _).mono fun k _ e => .inl e).trans (hf.mono fun k _ e => .inr e)⟩
        rw [turn_rel H.m p hpm true j, decide_eq_true hok.2.2]
      have hM := (H.m.frm (Frm.one w h p (.int .u8 ((cs[p] ||| 2 ^ q : Nat) : Int))) (fun e => H.hs e.symm) (fun e => H.hg e.symm))
      have hC := Lib.hid (comes_any s gM many bs p _ hM)
      have hX := Lib.hid hX
      have hc0' := (Frm.one w h p (.int .u8 ((cs[p] ||| 2 ^ q : Nat) : Int))).cell (p := ⟨o, 0, none⟩) H.oh H.c0
      simp only [Bool.not_false, if_true]
      clear H hv hok hab hac hgp hM ht
      have hpl' := Lib.hid hpl
      generalize ((cs[p] ||| 2 ^ q : Nat) : Int) = z at *
      generalize hcs : cs.set p (cs[p] ||| 2 ^ q) = cs' at *
      clear hcs
      generalize cs[p] = c at *
      generalize ((2 ^ q : Nat) : Int) = v at *
      go_enter Try.func7, Try.ntmps7
      go_wp2_with (first | (go_at_call 21; (with_reducible refine hB.out.mono ?_); rintro e w1 ⟨rfl, rfl⟩) | (go_at_call 22; (with_reducible refine hC.out.mono ?_); rintro e w3 ⟨rfl, hm3, hf3⟩))
      go_ret
      exact hX.out _ hm3 hf3
  · have hib : inB many i k = false := decide_eq_false hin
    have hv : bitV many i k = 0 := by unfold bitV; rw [hib]; rfl
    have hab : addB many cs i k = false := by unfold addB; rw [hib, Bool.false_and]
    have hac : addC many cs i k = cs := by unfold addC; rw [hab]; rfl
    rw [hv] at hB
    rw [hab, hac]
    have hP : OAddP w o h s gM many cs false (.returned (.bool false)) w := ⟨rfl, ⟨bs, H⟩, Frm.refl _ _⟩
    have hP := Lib.hid hP
    have hB := Lib.hid hB
    clear H hv hab hac
    go_enter Try.func7, Try.ntmps7
    go_wp2_with (go_at_call 21; (with_reducible refine hB.out.mono ?_); rintro e w1 ⟨rfl, rfl⟩)
    go_ret
    exact hP.out
end Go.Proofs.Ytdaobfhkdbaklaa
