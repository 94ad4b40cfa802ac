/-
  What an extent may have (chapter 36): all is sure, some is lost.
-/
import Derived.Test.YtecfppglpallmaaModel
namespace Go.Proofs.Ytecfppglpallmaa
open Go.RowKit
set_option linter.unusedVariables false
set_option linter.unusedSimpArgs false

/-- what 'cut' makes of a past -/
def CutOf (q q' : Pc) : Prop := (q.seen = false → q' = q) ∧ (q.seen = true → q'.l = q.l.drop (q.l.length - 1) ∧ q'.seen = true ∧ q'.wr = q.wr ∧ q'.sure = q.wr)
/-- what a loss makes of a past -/
def LostOf (q q' : Pc) : Prop := q'.l = q.l ∧ q'.seen = (q.seen && decide (q.l.length = 1)) ∧ q'.wr = q.wr ∧ q'.sure = q.sure
def PChg (Cof : Pc → Pc → Prop) (B h R cap : Nat) (qs : List Pc) (i : Nat) (q : Pc) (W : World) (e : Ending) (w' : World) : Prop := e = .returned (.tuple #[]) ∧ ∃ q', Cof q q' ∧ HX w' B h R cap (qs.set i q') ∧ Frm (fun k => k = R) W w'
theorem set_same {qs : List Pc} {i : Nat} {q : Pc} (h : qs[i]? = some q) : qs.set i q = qs := by
  apply List.ext_getElem?
  intro k
  rw [List.getElem?_set]
  split
  · rename_i e
    subst e
    have := (List.getElem?_eq_some_iff.1 h).1
    rw [if_pos this, h]
  · rfl
theorem upd_same {W W2 : World} {B h R cap : Nat} {qs : List Pc} {i : Nat} {q q' : Pc} (H : HX W B h R cap qs) (hq : qs[i]? = some q) (ht : TS W B q') (hg : q'.g = q.g) (hrow : W2.ownsRow B 40 4 (.slice (some ⟨R, 0, none⟩) qs.length cap) qs.length (flatH (qs.set i q'))) (hf2 : Frm (fun k => k = R) W W2) : HX W2 B h R cap (qs.set i q') :=
  (H.upd hq (Frm.refl _ _) ht (.inl hg) hrow hf2).1
set_option maxHeartbeats 1600000 in
theorem cut_any (B h R cap : Nat) (qs : List Pc) (i : Nat) (q : Pc) (W : World) (H : HX W B h R cap qs) (hq : qs[i]? = some q) (hl : q.l.length ≤ 100000) :
    Calls Try.prog 15 #[.pointer (some ⟨R, i * 4, none⟩)] W (PChg CutOf B h R cap qs i q W) := by
  obtain ⟨e0, e1, e2, e3⟩ := H.cells hq
  have f0 := H.free (i * 4)
  have f3 := H.free (i * 4 + 3)
  have hTS := H.txt i q hq
  obtain ⟨o, c, cur, hv, hh, hlc, hcm, hoc, hx⟩ := hTS.at_
  have hne := List.length_pos_iff.2 hTS.ne
  obtain ⟨m, hm⟩ : ∃ m, q.l.length = m + 1 := ⟨q.l.length - 1, by omega⟩
  rw [hv, hm] at e0
  cases hs : q.seen with
  | false =>
    rw [hs] at e1
    go_enter Try.func15, Try.ntmps15
    go_wp2
    go_end0
    exact ⟨rfl, q, ⟨fun _ => rfl, fun h => (by rw [hs] at h; cases h)⟩, by rw [set_same hq]; exact H, Frm.refl _ _⟩
  | true =>
    rw [hs] at e1
    have z1 : decide ((0 : Int) < (m : Int) + 1) = true := decide_eq_true (by omega)
    have z1' : decide ((0 : Int) < ((m + 1 : Nat) : Int)) = true := decide_eq_true (by omega)
    have z2 : decide (0 < m + 1) = true := decide_eq_true (by omega)
    have w1 : IntKind.i64.wrap ((m : Int) + 1 - 1) = (m : Int) := by rw [IntWalk.i64_in _ (by omega)]; omega
    have w1' : IntKind.i64.wrap (((m + 1 : Nat) : Int) - 1) = (m : Int) := by rw [IntWalk.i64_in _ (by omega)]; omega
    have k0 : (0 : Int) ≤ (m : Int) := by omega
    have k1 : (m : Int) ≤ (m : Int) + 1 := by omega
    have k2 : (m : Int) + 1 ≤ (c : Int) := by omega
    have k3 : (0 : Int) ≤ (m : Int) + 1 := by omega
    have k4 : ¬ m + 1 = m := by omega
    have k5 : m + 1 - m = 1 := by omega
    have hlast : q.l[m]? = some (q.l[m]'(by omega)) := List.getElem?_eq_getElem _
    have hr2 : ∀ W2, W2 = (W.setCell ⟨R, i * 4, none⟩ (.slice (some ⟨q.g, o + m, none⟩) 1 1)).setCell ⟨R, i * 4 + 3, none⟩ (.bool q.wr) → HX W2 B h R cap (qs.set i ⟨q.l.drop m, true, q.wr, q.wr, .slice (some ⟨q.g, o + m, none⟩) 1 1, q.g⟩) ∧ Frm (fun k => k = R) W W2 := by
      rintro W2 rfl
      have h1 := World.ownsRow.stored H.row (i * 4) (.slice (some ⟨q.g, o + m, none⟩) 1 1)
      have h2 := World.ownsRow.stored h1.1 (i * 4 + 3) (.bool q.wr)
      have hF : Frm (fun k => k = R) W ((W.setCell ⟨R, i * 4, none⟩ (.slice (some ⟨q.g, o + m, none⟩) 1 1)).setCell ⟨R, i * 4 + 3, none⟩ (.bool q.wr)) := (Frm.one W R _ _).trans (Frm.one _ R _ _)
      refine ⟨upd_same H hq ⟨?_, hTS.hB, o + m, 1, cur, ?_, hh, ?_, by unfold maxLen; omega, by omega, ?_⟩ rfl ?_ hF, hF⟩
      · intro h0
        have := congrArg List.length h0
        simp at this; omega
      · show _ = Value.slice _ (q.l.drop m).length 1
        rw [List.length_drop, hm, k5]
      · show (q.l.drop m).length ≤ 1
        rw [List.length_drop]; omega
      · intro k x hk
        have hk0 : (q.l.drop m)[k]? = some x := hk
        rw [List.getElem?_drop] at hk0
        have := hx (m + k) x hk0
        rwa [Nat.add_assoc]
      · rw [flatH_set qs i q _ hq]
        have g := flatH_get qs i q hq
        rw [set_id (j := i * 4 + 1), set_id (j := i * 4 + 2)]
        · exact h2.1
        · rw [List.getElem?_set_ne (by omega)]; exact g.2.2.1
        · rw [List.getElem?_set_ne (by omega), g.2.1, hs]
    have hC : CutOf q ⟨q.l.drop m, true, q.wr, q.wr, .slice (some ⟨q.g, o + m, none⟩) 1 1, q.g⟩ := ⟨fun h => (by rw [hs] at h; cases h), fun _ => ⟨(by rw [hm]; rfl), rfl, rfl, rfl⟩⟩
    replace hr2 := Lib.hid hr2
    replace hC := Lib.hid hC
    clear hlast hx hv hh
    go_enter Try.func15, Try.ntmps15
    go_wp2
    go_end0
    exact ⟨rfl, _, hC.out, hr2.out _ rfl⟩
theorem lost1_any (B h R cap : Nat) (qs : List Pc) (i : Nat) (q : Pc) (W : World) (H : HX W B h R cap qs) (hq : qs[i]? = some q) (hl : q.l.length ≤ 100000) :
    Calls Try.prog 16 #[.pointer (some ⟨R, i * 4, none⟩)] W (PChg LostOf B h R cap qs i q W) := by
  obtain ⟨e0, e1, e2, e3⟩ := H.cells hq
  have f1 := H.free (i * 4 + 1)
  have hTS := H.txt i q hq
  obtain ⟨o, c, cur, hv, hh, hlc, hcm, hoc, hx⟩ := hTS.at_
  have hr2 : ∀ b W2, b = (q.seen && decide (q.l.length = 1)) → W2 = W.setCell ⟨R, i * 4 + 1, none⟩ (.bool b) → PChg LostOf B h R cap qs i q W (.returned (.tuple #[])) W2 := by
    rintro b W2 hb rfl
    have h1 := World.ownsRow.stored H.row (i * 4 + 1) (.bool b)
    have hF := Frm.one W R (i * 4 + 1) (.bool b)
    refine ⟨rfl, ⟨q.l, b, q.wr, q.sure, q.lv, q.g⟩, ⟨rfl, hb, rfl, rfl⟩, upd_same H hq ⟨hTS.ne, hTS.hB, hTS.at_⟩ rfl ?_ hF, hF⟩
    rw [flatH_set qs i q _ hq]
    have g := flatH_get qs i q hq
    rw [set_id g.1, set_id (j := i * 4 + 2), set_id (j := i * 4 + 3)]
    · exact h1.1
    · rw [List.getElem?_set_ne (by omega)]; exact g.2.2.2
    · rw [List.getElem?_set_ne (by omega)]; exact g.2.2.1
  rw [hv] at e0
  cases hs : q.seen with
  | false =>
    rw [hs] at e1 hr2
    replace hr2 := Lib.hid hr2
    clear hx hv hh
    go_enter Try.func16, Try.ntmps16
    go_wp2
    go_end0
    exact hr2.out _ _ (by simp) rfl
  | true =>
    rw [hs] at e1 hr2
    by_cases h1 : q.l.length = 1
    · rw [h1] at e0
      rw [decide_eq_true h1] at hr2
      replace hr2 := Lib.hid hr2
      clear hx hv hh h1
      go_enter Try.func16, Try.ntmps16
      go_wp2
      go_end0
      exact hr2.out _ _ rfl rfl
    · have z1 : ((q.l.length : Int) == 1) = false := beq_eq_false_iff_ne.2 (by omega)
      have z2 : (q.l.length == 1) = false := beq_eq_false_iff_ne.2 h1
      rw [decide_eq_false h1] at hr2
      replace hr2 := Lib.hid hr2
      clear hx hv hh h1
      go_enter Try.func16, Try.ntmps16
      go_wp2
      go_end0
      exact hr2.out _ _ rfl rfl
/-- the first k pasts are changed -/
def RelK (Cof : Pc → Pc → Prop) (k : Nat) (qs qs' : List Pc) : Prop := qs'.length = qs.length ∧ ∀ (i : Nat) q, qs[i]? = some q → ∃ q', qs'[i]? = some q' ∧ if i < k then Cof q q' else q' = q
theorem RelK.zero (Cof : Pc → Pc → Prop) (qs : List Pc) : RelK Cof 0 qs qs := ⟨rfl, fun i q h => ⟨q, h, by rw [if_neg (Nat.not_lt_zero _)]⟩⟩
theorem RelK.step {Cof : Pc → Pc → Prop} {k : Nat} {qs qs' : List Pc} {q q' : Pc} (h : RelK Cof k qs qs') (hq : qs[k]? = some q) (hc : Cof q q') : RelK Cof (k + 1) qs (qs'.set k q') := by
  have hk := (List.getElem?_eq_some_iff.1 hq).1
  refine ⟨by rw [List.length_set]; exact h.1, fun i a ha => ?_⟩
  by_cases e : k = i
  · subst e
    rw [hq] at ha
    injection ha with ha
    subst ha
    exact ⟨q', List.getElem?_set_self (by rw [h.1]; exact hk), by rw [if_pos (Nat.lt_succ_self _)]; exact hc⟩
  · obtain ⟨b, h1, h2⟩ := h.2 i a ha
    refine ⟨b, by rw [List.getElem?_set_ne e]; exact h1, ?_⟩
    by_cases h3 : i < k
    · rw [if_pos h3] at h2; rw [if_pos (by omega)]; exact h2
    · rw [if_neg h3] at h2; rw [if_neg (by omega)]; exact h2
theorem RelK.at {Cof : Pc → Pc → Prop} {k : Nat} {qs qs' : List Pc} (h : RelK Cof k qs qs') (hk : k < qs.length) : ∃ q, qs[k]? = some q ∧ qs'[k]? = some q := by
  obtain ⟨b, h1, h2⟩ := h.2 k _ (List.getElem?_eq_getElem hk)
  rw [if_neg (Nat.lt_irrefl _)] at h2
  subst h2
  exact ⟨_, List.getElem?_eq_getElem hk, h1⟩
set_option maxHeartbeats 1600000 in
theorem each_cut (B h R cap : Nat) (qs : List Pc) (W : World) (H : HX W B h R cap qs) (hm : qs.length ≤ 100000) (hl : ∀ (i : Nat) q, qs[i]? = some q → q.l.length ≤ 100000) :
    Calls Try.prog 14 #[.pointer (some ⟨h, 0, none⟩), .func (.func 15) #[] #[]] W fun e w' => e = .returned (.tuple #[]) ∧ ∃ qs', RelK CutOf qs.length qs qs' ∧ HX w' B h R cap qs' ∧ Frm (fun k => k = R) W w' := by
  have c0 := H.c0
  have hR0 := RelK.zero CutOf qs
  replace H := Lib.hid H
  replace hl := Lib.hid hl
  go_enter Try.func14, Try.ntmps14
  go_wp2
  go_loopw [12] (fun i wr => ∃ (k : Nat) (qs' : List Pc), k ≤ qs.length ∧ i = .int .i64 k ∧ Hid (RelK CutOf k qs qs') ∧ Hid (HX wr B h R cap qs') ∧ Hid (Frm (fun k => k = R) W wr)) (fun i _ => qs.length - (intOf i).toNat)
  case atStart => exact ⟨0, qs, Nat.zero_le _, rfl, hR0, H, Frm.refl _ _⟩
  case round =>
    obtain ⟨k, qs', hk, rfl, hR, hX, hF⟩ := hrel
    clear hR0 c0
    have hlen := hR.out.1
    have c0 := hX.out.c0
    rw [hlen] at c0
    by_cases hlt : k < qs.length
    · have hd : decide ((k : Int) < (qs.length : Int)) = true := decide_eq_true (by omega)
      have i1 : (0 : Int) ≤ (k : Int) := by omega
      have i2 : (k : Int) < (qs.length : Int) := by omega
      obtain ⟨q, hq, hq'⟩ := hR.out.at hlt
      have hcall := cut_any B h R cap qs' k q wr hX.out hq' (hl.out k q hq)
      replace hcall := Lib.hid hcall
      have hstep := Lib.hid (fun q' hc => hR.out.step (q' := q') hq hc)
      clear hq hq' hX hR hlen
      go_wp2_with (go_at_call 15; (with_reducible refine hcall.out.mono ?_); rintro e w3 ⟨rfl, q', hc, hX3, hf3⟩)
      exact ⟨⟨k + 1, _, by omega, by go_num, hstep.out _ hc, hX3, hF.out.trans hf3⟩, by simp [intOf]; omega⟩
    · have hkk : k = qs.length := by omega
      subst hkk
      have hd : decide ((qs.length : Int) < (qs.length : Int)) = false := decide_eq_false (by omega)
      clear hlen
      go_wp2
      go_end0
      exact ⟨rfl, qs', hR.out, hX.out, hF.out⟩
set_option maxHeartbeats 1600000 in
theorem each_lost (B h R cap : Nat) (qs : List Pc) (W : World) (H : HX W B h R cap qs) (hm : qs.length ≤ 100000) (hl : ∀ (i : Nat) q, qs[i]? = some q → q.l.length ≤ 100000) :
    Calls Try.prog 14 #[.pointer (some ⟨h, 0, none⟩), .func (.func 16) #[] #[]] W fun e w' => e = .returned (.tuple #[]) ∧ ∃ qs', RelK LostOf qs.length qs qs' ∧ HX w' B h R cap qs' ∧ Frm (fun k => k = R) W w' := by
  have c0 := H.c0
  have hR0 := RelK.zero LostOf qs
  replace H := Lib.hid H
  replace hl := Lib.hid hl
  go_enter Try.func14, Try.ntmps14
  go_wp2
  go_loopw [12] (fun i wr => ∃ (k : Nat) (qs' : List Pc), k ≤ qs.length ∧ i = .int .i64 k ∧ Hid (RelK LostOf k qs qs') ∧ Hid (HX wr B h R cap qs') ∧ Hid (Frm (fun k => k = R) W wr)) (fun i _ => qs.length - (intOf i).toNat)
  case atStart => exact ⟨0, qs, Nat.zero_le _, rfl, hR0, H, Frm.refl _ _⟩
  case round =>
    obtain ⟨k, qs', hk, rfl, hR, hX, hF⟩ := hrel
    clear hR0 c0
    have hlen := hR.out.1
    have c0 := hX.out.c0
    rw [hlen] at c0
    by_cases hlt : k < qs.length
    · have hd : decide ((k : Int) < (qs.length : Int)) = true := decide_eq_true (by omega)
      have i1 : (0 : Int) ≤ (k : Int) := by omega
      have i2 : (k : Int) < (qs.length : Int) := by omega
      obtain ⟨q, hq, hq'⟩ := hR.out.at hlt
      have hcall := lost1_any B h R cap qs' k q wr hX.out hq' (hl.out k q hq)
      replace hcall := Lib.hid hcall
      have hstep := Lib.hid (fun q' hc => hR.out.step (q' := q') hq hc)
      clear hq hq' hX hR hlen
      go_wp2_with (go_at_call 16; (with_reducible refine hcall.out.mono ?_); rintro e w3 ⟨rfl, q', hc, hX3, hf3⟩)
      exact ⟨⟨k + 1, _, by omega, by go_num, hstep.out _ hc, hX3, hF.out.trans hf3⟩, by simp [intOf]; omega⟩
    · have hkk : k = qs.length := by omega
      subst hkk
      have hd : decide ((qs.length : Int) < (qs.length : Int)) = false := decide_eq_false (by omega)
      clear hlen
      go_wp2
      go_end0
      exact ⟨rfl, qs', hR.out, hX.out, hF.out⟩
theorem flushed_any (B h R cap : Nat) (qs : List Pc) (W : World) (H : HX W B h R cap qs) (hm : qs.length ≤ 100000) (hl : ∀ (i : Nat) q, qs[i]? = some q → q.l.length ≤ 100000) :
    Calls Try.prog 8 #[.pointer (some ⟨h, 0, none⟩)] W fun e w' => e = .returned (.tuple #[]) ∧ ∃ qs', RelK CutOf qs.length qs qs' ∧ HX w' B h R cap qs' ∧ Frm (fun k => k = R) W w' := by
  have he := each_cut B h R cap qs W H hm hl
  go_enter Try.func8, Try.ntmps8
  go_wp2_with (go_at_call 14; (with_reducible refine he.mono ?_); rintro e w3 ⟨rfl, hx⟩)
  go_end0
  exact ⟨rfl, hx⟩
theorem lost_any (B h R cap : Nat) (qs : List Pc) (W : World) (H : HX W B h R cap qs) (hm : qs.length ≤ 100000) (hl : ∀ (i : Nat) q, qs[i]? = some q → q.l.length ≤ 100000) :
    Calls Try.prog 9 #[.pointer (some ⟨h, 0, none⟩)] W fun e w' => e = .returned (.tuple #[]) ∧ ∃ qs', RelK LostOf qs.length qs qs' ∧ HX w' B h R cap qs' ∧ Frm (fun k => k = R) W w' := by
  have he := each_lost B h R cap qs W H hm hl
  go_enter Try.func9, Try.ntmps9
  go_wp2_with (go_at_call 14; (with_reducible refine he.mono ?_); rintro e w3 ⟨rfl, hx⟩)
  go_end0
  exact ⟨rfl, hx⟩
end Go.Proofs.Ytecfppglpallmaa
