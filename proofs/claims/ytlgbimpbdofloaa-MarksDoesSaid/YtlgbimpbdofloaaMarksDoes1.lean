/-
  A set and its reference: what each keeps.
-/
import Derived.Test.YtlgbimpbdofloaaMarksDoes0
namespace Go.Proofs.Ytlgbimpbdofloaa
open Go.RowKit
set_option linter.unusedVariables false
set_option linter.unusedSimpArgs false

def cntB (bs : List Nat) (k : Nat) : Nat := ((List.range k).filter (bit bs)).length
theorem sel_cnt (bs : List Nat) (k : Nat) : (sel bs k).length = cntB bs k := by simp [sel, cntB]
theorem ones_cnt (c : Nat) (hc : c < 256) : ((List.range 8).filter (fun r => c.testBit r)).length = Lib.onesCount c := by
  have h : ∀ c : Fin 256, ((List.range 8).filter (fun r => c.val.testBit r)).length = Lib.onesCount c.val := by decide +kernel
  exact h ⟨c, hc⟩
theorem cntB_bytes (bs : List Nat) (hb : ∀ x ∈ bs, x < 256) : ∀ m, m ≤ bs.length → cntB bs (8 * m) = lenM (bs.take m) := by
  intro m
  induction m with
  | zero => intro _; rfl
  | succ m ih =>
    intro hm
    have hm' : m < bs.length := by omega
    have ho := ones_cnt bs[m] (hb _ (List.getElem_mem hm'))
    rw [lenM_snoc bs m hm', ← ih (by omega), ← ho]
    unfold cntB
    rw [show 8 * (m + 1) = 8 * m + 8 by omega, List.range_add, List.filter_append, List.length_append, List.filter_map, List.length_map]
    congr 1
    congr 1
    apply List.filter_congr
    intro r hr
    have := List.mem_range.1 hr
    show bit bs (8 * m + r) = _
    unfold bit
    rw [show (8 * m + r) / 8 = m by omega, show (8 * m + r) % 8 = r by omega, getD_at hm']
theorem cntB_end (bs : List Nat) (m d : Nat) (hz : ∀ i, m ≤ i → bit bs i = false) : cntB bs (m + d) = cntB bs m := by
  induction d with
  | zero => rfl
  | succ d ih =>
    rw [← ih]
    unfold cntB
    rw [← Nat.add_assoc, List.range_succ, List.filter_append]
    simp [List.filter_cons, hz (m + d) (by omega)]
theorem len_sel {w : World} {s g many : Nat} {bs : List Nat} (h : MS w s g many bs) : lenM bs = (sel bs many).length := by
  have h1 := cntB_bytes bs h.hb bs.length (Nat.le_refl _)
  rw [List.take_length] at h1
  have hn := h.hn
  rw [← h1, sel_cnt]
  obtain ⟨d, hd⟩ : ∃ d, 8 * bs.length = many + d := ⟨8 * bs.length - many, by omega⟩
  rw [hd]
  exact cntB_end bs many d h.hz
structure MST (s gM q gb cap many : Nat) (w : World) (bs : List Nat) (bl : List Bool) (wr : World) : Prop where
  m : MS wr s gM many bs
  r : RM wr q gb cap bl
  len : bl.length = many
  eq : ∀ j (h : j < bl.length), bl[j] = bit bs j
  be : Below w.heap.size w wr
  l1 : w.heap.size ≤ s ∧ w.heap.size ≤ gM ∧ s < q ∧ gM < q ∧ s < gb ∧ gM < gb
def MSx (s gM q many : Nat) (w : World) (bs : List Nat) (wr : World) : Prop := ∃ gb cap bl, MST s gM q gb cap many w bs bl wr
variable {s gM q gb cap many : Nat} {w w1 w2 : World} {bs : List Nat} {bl : List Bool}
theorem MST.below (h : MST s gM q gb cap many w bs bl w1) (hb : Below w1.heap.size w1 w2) : MST s gM q gb cap many w bs bl w2 :=
  ⟨h.m.below hb, h.r.below hb, h.len, h.eq, h.be.trans (hb.mono h.be.size), h.l1⟩
theorem MST.sel (h : MST s gM q gb cap many w bs bl w1) : selB bl bl.length = Go.Proofs.Ytlgbimpbdofloaa.sel bs many := by
  rw [selB_sel bl bs bl.length fun i hi => by rw [getB_at hi]; exact h.eq i hi, h.len]
theorem MST.has (h : MST s gM q gb cap many w bs bl w1) (i : Int) : hasR bl i = hasB many bs i := by
  unfold hasR hasB
  rw [h.len]
  by_cases h1 : 0 ≤ i ∧ i < many
  · have hi : i.toNat < bl.length := by have := h.len; omega
    rw [getB_at hi, h.eq _ hi]
  · have : (decide (0 ≤ i) && decide (i < (many : Int))) = false := by
      by_cases h2 : 0 ≤ i
      · rw [decide_eq_false (show ¬ i < (many : Int) by omega), Bool.and_false]
      · rw [decide_eq_false h2, Bool.false_and]
    rw [this, Bool.false_and, Bool.false_and]
theorem MST.putB (h : MST s gM q gb cap many w bs bl w1) (i : Int) (c : Bool) : putB bl i c = turnB many bs i c := by
  unfold Go.Proofs.Ytlgbimpbdofloaa.putB turnB
  rw [h.len]
  by_cases h1 : 0 ≤ i ∧ i < many
  · have hi : i.toNat < bl.length := by have := h.len; omega
    rw [getB_at hi, h.eq _ hi]
  · have : (decide (0 ≤ i) && decide (i < (many : Int))) = false := by
      by_cases h2 : 0 ≤ i
      · rw [decide_eq_false (show ¬ i < (many : Int) by omega), Bool.and_false]
      · rw [decide_eq_false h2, Bool.false_and]
    rw [this, Bool.false_and, Bool.false_and]
theorem MST.putEq (h : MST s gM q gb cap many w bs bl w1) (i : Int) (c : Bool) : (Go.Proofs.Ytlgbimpbdofloaa.putL bl i c).length = many ∧ ∀ j (hj : j < (Go.Proofs.Ytlgbimpbdofloaa.putL bl i c).length), (Go.Proofs.Ytlgbimpbdofloaa.putL bl i c)[j] = bit (turnL many bs i c) j := by
  unfold Go.Proofs.Ytlgbimpbdofloaa.putL turnL
  rw [h.putB]
  cases ht : turnB many bs i c with
  | false => exact ⟨h.len, h.eq⟩
  | true =>
    unfold turnB at ht
    simp only [Bool.and_eq_true, decide_eq_true_eq] at ht
    obtain ⟨⟨h1, h2⟩, h3⟩ := ht
    have hne : bit bs i.toNat = !c := by revert h3; cases bit bs i.toNat <;> cases c <;> simp
    simp only [if_true]
    refine ⟨by rw [List.length_set]; exact h.len, fun j hj => ?_⟩
    rw [List.length_set] at hj
    have hn := h.m.hn
    have hl := h.len
    rw [flip_bit _ _ _ (by omega)]
    by_cases e : i.toNat = j
    · subst e
      rw [List.getElem_set_self, hne]
      simp
    · rw [List.getElem_set_ne e, h.eq j hj, decide_eq_false (fun e' => e e'.symm)]
      simp
theorem MST.a {bs' : List Nat} (h : MST s gM q gb cap many w bs bl w1) (hm : MS w2 s gM many bs') (hf : Frm (· = gM) w1 w2) : MS w2 s gM many bs' ∧ RM w2 q gb cap bl ∧ Below w.heap.size w w2 ∧ gM < w2.heap.size ∧ s < w2.heap.size := by
  have := h.l1
  exact ⟨hm, h.r.frm hf (by omega) (by omega), below_frm h.be hf (by rintro k rfl; omega), hm.hg, hm.lt⟩
theorem MST.b {i : Int} {c : Bool} {w0 : World} (h : MST s gM q gb cap many w bs bl w0) (h1 : MS w1 s gM many (turnL many bs i c) ∧ RM w1 q gb cap bl ∧ Below w.heap.size w w1 ∧ gM < w1.heap.size ∧ s < w1.heap.size)
    (hr : ∃ g' cap', RM w2 q g' cap' (Go.Proofs.Ytlgbimpbdofloaa.putL bl i c) ∧ (g' = gb ∨ w1.heap.size ≤ g')) (hf : Frm (· = q) w1 w2) : MSx s gM q many w (turnL many bs i c) w2 := by
  obtain ⟨g', cap', hr, hg⟩ := hr
  have := h.l1
  obtain ⟨e1, e2⟩ := h.putEq i c
  exact ⟨g', cap', _, h1.1.frm hf (by omega) (by omega), hr, e1, e2, below_frm h1.2.2.1 hf (by rintro k rfl; omega), by omega⟩
end Go.Proofs.Ytlgbimpbdofloaa
