/-
  The statement OwedOnce.
-/
import Derived.Test.YtdaobfhkdbaklaaOwed6
import Derived.Test.YtdaobfhkdbaklaaDraw
namespace Go.Proofs.Ytdaobfhkdbaklaa
open Go.RowKit
set_option linter.unusedVariables false
set_option linter.unusedSimpArgs false

structure OOp where
  k : Int
  e : Int
  f : Int
def oopE (x : OOp) : List Value := [.int .i64 x.k, .int .i64 x.e, .int .i64 x.f]
def oopOk (x : OOp) : Prop := (Lit.int .i64 x.k).wf = true ∧ (Lit.int .i64 x.e).wf = true ∧ (Lit.int .i64 x.f).wf = true
instance : Inhabited OOp := ⟨⟨0, 0, 0⟩⟩
theorem oop_of (vs : List Value) (h : OKs [LK.int .i64, LK.int .i64, LK.int .i64] vs) : ∃ x, vs = oopE x ∧ oopOk x := by
  obtain ⟨c0, r0, rfl, h0, h⟩ := OKs.cons h
  obtain ⟨c1, r1, rfl, h1, h⟩ := OKs.cons h
  obtain ⟨c2, r2, rfl, h2, h⟩ := OKs.cons h
  obtain rfl := OKs.nil h
  obtain ⟨a0, rfl, w0⟩ := h0
  obtain ⟨a1, rfl, w1⟩ := h1
  obtain ⟨a2, rfl, w2⟩ := h2
  exact ⟨⟨a0, a1, a2⟩, rfl, w0, w1, w2⟩
/-- what is owed, and what the statement remembers of it -/
structure OT (w : World) (o h s gM T many : Nat) (cs : List Nat) (W : World) : Prop where
  ow : ∃ bs, OW W o h s gM many bs cs
  th : ∀ j, j < 168 → W.cell? ⟨T, j, none⟩ = some (.bool ((cs.getD (j / 7) 0).testBit (j % 7)))
  tf : ∀ j, j < 168 → W.frozen? ⟨T, j, none⟩ = false
  ne : T ≠ o ∧ T ≠ h ∧ T ≠ s ∧ T ≠ gM
  ge : w.heap.size ≤ o ∧ w.heap.size ≤ h ∧ w.heap.size ≤ s ∧ w.heap.size ≤ gM ∧ w.heap.size ≤ T
  be : Below w.heap.size w W
theorem OT.below {w W W' : World} {o h s gM T many : Nat} {cs : List Nat} (H : OT w o h s gM T many cs W) (hb : Below W.heap.size W W') : OT w o h s gM T many cs W' := by
  obtain ⟨bs, hw⟩ := H.ow
  exact ⟨⟨bs, hw.below hb⟩, fun j hj => bkeep hb (H.th j hj), fun j hj => bfree hb (H.th j hj) (H.tf j hj), H.ne, H.ge, H.be.trans (hb.mono H.be.size)⟩
theorem OT.tlt {w W : World} {o h s gM T many : Nat} {cs : List Nat} (H : OT w o h s gM T many cs W) : T < W.heap.size := World.block_lt_of_cell? W _ (H.th 0 (by decide))
/-- behind a call that changes one place's kinds by one kind, and the store that remembers it -/
theorem OT.step {w W W' : World} {o h s gM T many : Nat} {cs cs' : List Nat} (H : OT w o h s gM T many cs W) (hw : ∃ bs, OW W' o h s gM many bs cs') (hf : Frm (fun k => k = h ∨ k = gM ∨ W.heap.size ≤ k) W W') (p q : Nat) (b : Bool) (hp : p < 24) (hq : q < 7)
    (hc : ∀ x r, r < 7 → (cs'.getD x 0).testBit r = if x = p ∧ r = q then b else (cs.getD x 0).testBit r) (W2 : World) (hb : Below W'.heap.size W' W2) : OT w o h s gM T many cs' (W2.setCell ⟨T, p * 7 + q, none⟩ (.bool b)) := by
  obtain ⟨bs, hw⟩ := hw
  obtain ⟨n1, n2, n3, n4⟩ := H.ne
  obtain ⟨g1, g2, g3, g4, g5⟩ := H.ge
  have hT := H.tlt
  have hnT : ¬ (T = h ∨ T = gM ∨ W.heap.size ≤ T) := by omega
  have hb0 : Below w.heap.size w W' := belowO H.be hf (fun k hk => by have := H.be.size; omega)
  refine ⟨⟨bs, (hw.below hb).frm (Frm.one W2 T (p * 7 + q) (.bool b)) (fun e => n1 e.symm) (fun e => n2 e.symm) (fun e => n3 e.symm) (fun e => n4 e.symm)⟩, fun j hj => ?_, fun j hj => (World.frozen?_setCell _ _ _ _).trans (bfree hb (hf.cell (p := ⟨T, j, none⟩) hnT (H.th j hj)) ((hf.frozen (p := ⟨T, j, none⟩) hnT hT).trans (H.tf j hj))), H.ne, H.ge, (hb0.trans (hb.mono hb0.size)).setCell (p := ⟨T, p * 7 + q, none⟩) g5 _⟩
  have hold := bkeep hb (hf.cell (p := ⟨T, j, none⟩) hnT (H.th j hj))
  rw [hc _ _ (Nat.mod_lt _ (by decide))]
  by_cases e : p * 7 + q = j
  · subst e
    rw [if_pos ⟨by omega, by omega⟩]
    exact cell_same hold
  · rw [if_neg (by omega)]
    exact cell_off hold e
theorem OT.keep {w W W' : World} {o h s gM T many : Nat} {cs : List Nat} (H : OT w o h s gM T many cs W) (hw : ∃ bs, OW W' o h s gM many bs cs) (hf : Frm (fun k => k = h ∨ k = gM ∨ W.heap.size ≤ k) W W') : OT w o h s gM T many cs W' := by
  obtain ⟨n1, n2, n3, n4⟩ := H.ne
  obtain ⟨g1, g2, g3, g4, g5⟩ := H.ge
  have hT := H.tlt
  have hnT : ¬ (T = h ∨ T = gM ∨ W.heap.size ≤ T) := by omega
  exact ⟨hw, fun j hj => hf.cell (p := ⟨T, j, none⟩) hnT (H.th j hj), fun j hj => (hf.frozen (p := ⟨T, j, none⟩) hnT hT).trans (H.tf j hj), H.ne, H.ge, belowO H.be hf (fun k hk => by have := H.be.size; omega)⟩
/-- what Add changes -/
theorem add_law {W : World} {o h s gM many : Nat} {bs cs : List Nat} (H : OW W o h s gM many bs cs) (i k : Int) (ha : addB many cs i k = true) : ∃ p q : Nat, i = p ∧ k = q ∧ p < many ∧ 1 ≤ q ∧ q ≤ 6 ∧ lenC (addC many cs i k) = lenC cs + 1 ∧ ∀ x r, r < 7 → ((addC many cs i k).getD x 0).testBit r = if x = p ∧ r = q then true else (cs.getD x 0).testBit r := by
  have ha0 := ha
  unfold addB inB at ha
  simp only [Bool.and_eq_true, decide_eq_true_eq, Bool.not_eq_true'] at ha
  obtain ⟨⟨h1, h2, h3, h4⟩, h5⟩ := ha
  obtain ⟨p, rfl⟩ : ∃ p : Nat, i = p := ⟨i.toNat, by omega⟩
  obtain ⟨q, rfl⟩ : ∃ q : Nat, k = q := ⟨k.toNat, by omega⟩
  have hpl : p < cs.length := by rw [H.len]; omega
  simp only [Int.toNat_natCast] at h5
  have hac : addC many cs p q = cs.set p (cs[p] ||| 2 ^ q) := by
    unfold addC
    rw [ha0, if_pos rfl, Int.toNat_natCast, Int.toNat_natCast, getD_at hpl]
  rw [getD_at hpl] at h5
  refine ⟨p, q, rfl, rfl, by omega, by omega, by omega, ?_, fun x r hr => ?_⟩
  · rw [hac]
    have := sum_set Lib.onesCount cs p (cs[p] ||| 2 ^ q) hpl
    have h6 := ones_add cs[p] q (H.lt _ (List.getElem_mem hpl)) (by omega) h5
    unfold lenC
    omega
  · rw [hac]
    by_cases e : x = p
    · subst e
      rw [List.getD_eq_getElem?_getD, List.getElem?_set_self hpl]
      show (cs[x] ||| 2 ^ q).testBit r = _
      rw [or_bit, getD_at hpl]
      by_cases e2 : r = q
      · rw [if_pos ⟨rfl, e2⟩, decide_eq_true e2, Bool.or_true]
      · rw [if_neg (fun h => e2 h.2), decide_eq_false e2, Bool.or_false]
    · rw [if_neg (fun h => e h.1), List.getD_eq_getElem?_getD, List.getElem?_set_ne (fun e' => e e'.symm), ← List.getD_eq_getElem?_getD]
/-- what Pay changes -/
theorem pay_law {W : World} {o h s gM many : Nat} {bs cs : List Nat} (H : OW W o h s gM many bs cs) (p : Nat) (hp : p < cs.length) (hn : cs[p] ≠ 0) : 1 ≤ tzK (cs.getD p 0) ∧ tzK (cs.getD p 0) ≤ 6 ∧ (cs.getD p 0).testBit (tzK (cs.getD p 0)) = true ∧ lenC cs = lenC (cs.set p (offC (cs.getD p 0))) + 1 ∧ ∀ x r, r < 7 → ((cs.set p (offC (cs.getD p 0))).getD x 0).testBit r = if x = p ∧ r = tzK (cs.getD p 0) then false else (cs.getD x 0).testBit r := by
  rw [getD_at hp]
  have hlt := H.lt _ (List.getElem_mem hp)
  obtain ⟨k1, k2, k3, _, _, _⟩ := pay_facts cs[p] hlt hn
  refine ⟨k1, k2, k3, ?_, fun x r hr => ?_⟩
  · have := sum_set Lib.onesCount cs p (offC cs[p]) hp
    have h6 := ones_off cs[p] hlt hn
    unfold lenC
    omega
  · by_cases e : x = p
    · subst e
      rw [List.getD_eq_getElem?_getD, List.getElem?_set_self hp, getD_at hp]
      show (offC cs[x]).testBit r = _
      rw [off_bit _ _ hlt hn hr]
      by_cases e2 : r = tzK cs[x]
      · rw [if_pos ⟨rfl, e2⟩, decide_eq_false (fun h => h e2), Bool.and_false]
      · rw [if_neg (fun h => e2 h.2), decide_eq_true e2, Bool.and_true]
    · rw [if_neg (fun h => e h.1), List.getD_eq_getElem?_getD, List.getElem?_set_ne (fun e' => e e'.symm), ← List.getD_eq_getElem?_getD]
end Go.Proofs.Ytdaobfhkdbaklaa
