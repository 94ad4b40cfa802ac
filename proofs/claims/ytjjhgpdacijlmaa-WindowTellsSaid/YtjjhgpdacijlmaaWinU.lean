/-
  A window's bodies under way, gathered by the law's own closure.
-/
import Derived.Test.YtjjhgpdacijlmaaAllO
import Derived.Test.YtjjhgpdacijlmaaUnd
import Derived.RangeFuncBox
namespace Go.Proofs.Ytjjhgpdacijlmaa
open Go.RowKit Go.Shelf
set_option linter.unusedVariables false
set_option linter.unusedSimpArgs false
theorem heap_ne_of_row {W : World} {B : Nat} {v : Value} {l : List U2} (h : URow W B v l) {k : Nat} {o : Obj} (hk : W.heap[k]? = some o) (ho : ∀ vs z, o ≠ .cells vs 41 z) : ¬ some k = v.ownBlock := by
  rcases h.2 with ⟨hv, _⟩ | ⟨g, cap, cur, hv, _, hg, _⟩
  · rw [hv]; simp [Value.ownBlock]
  · rw [hv]
    intro h2
    simp only [Value.ownBlock, Option.some.injEq] at h2
    subst h2
    rw [hg] at hk
    cases hk
    exact ho _ _ rfl
set_option maxHeartbeats 1600000 in
theorem und1_any {W : World} {D c1 c2 : Nat} {v : Value} {l : List U2} {most i : Int} {s : ByteArray} (hb : Boxed W c1 38 v) (hrow : URow W D v l) (hc1 : c1 < D) (hc2 : c2 < D) (h12 : c2 ≠ c1) (hm : W.cell? ⟨c2, 0, none⟩ = some (.int .i64 most)) (hD : D ≤ W.heap.size) (hl : l.length ≤ 1000) :
    Calls Try.prog 23 #[.int .i64 i, .string s, .pointer (some ⟨c1, 0, none⟩), .pointer (some ⟨c2, 0, none⟩)] W fun e W' => e = .returned (.bool (decide ((l.length : Int) + 1 < most))) ∧ (∃ v', Boxed W' c1 38 v' ∧ URow W' D v' (l ++ [(i, s)])) ∧ KeepsOthers W W' ∧ KC D c1 41 W W' ∧ Frm (fun k => k = c1 ∨ D ≤ k) W W' := by
  have hA := (Below.refl W.heap.size W).alloc (Nat.le_refl _) (.cells #[.int .i64 i, .string s] 41)
  have hrow1 := hrow.below hA
  have hux := UX.one W (i, s)
  have hbx1 := hb.alloc (.cells #[.int .i64 i, .string s] 41)
  have hm1 := bkeep hA hm
  have hc := hb.cell
  have hcf := hb.frozen
  have hD1 : D ≤ (W.alloc (.cells #[.int .i64 i, .string s] 41)).heap.size := by simp; omega
  have hlen : l.length + [(i, s)].length ≤ 1000000 := by simp; omega
  obtain ⟨W1, hW1⟩ : ∃ W1, W.alloc (.cells #[.int .i64 i, .string s] 41) = W1 := ⟨_, rfl⟩
  rw [hW1] at hA hrow1 hux hbx1 hm1 hD1
  have hfin : ∀ v' w', URow w' D v' (l ++ [(i, s)]) → Frm (fun k => some k = v.ownBlock) W1 w' →
      (w'.cell? ⟨c1, 0, none⟩ = some v ∧ w'.frozen? ⟨c1, 0, none⟩ = false ∧ w'.cell? ⟨c2, 0, none⟩ = some (.int .i64 most)) ∧
      ((∃ v'', Boxed (w'.setCell ⟨c1, 0, none⟩ v') c1 38 v'' ∧ URow (w'.setCell ⟨c1, 0, none⟩ v') D v'' (l ++ [(i, s)])) ∧ KeepsOthers W (w'.setCell ⟨c1, 0, none⟩ v') ∧ KC D c1 41 W (w'.setCell ⟨c1, 0, none⟩ v') ∧ Frm (fun k => k = c1 ∨ D ≤ k) W (w'.setCell ⟨c1, 0, none⟩ v')) := by
    intro v' w' h1 h2
    have hown : ∀ g, v.ownBlock = some g → D ≤ g := fun g hg => (hrow1.lt g hg).1
    have n1 : ¬ some c1 = v.ownBlock := fun e => by have := hown c1 e.symm; omega
    have n2 : ¬ some c2 = v.ownBlock := fun e => by have := hown c2 e.symm; omega
    have hbw : Boxed w' c1 38 v := (h2.block c1 hbx1.lt n1).trans hbx1
    have hlt' := hbw.lt
    have hs := hbw.set v'
    have hF1 : Frm (fun k => D ≤ k) W w' := ((Frm.ofBelow (S := fun k => D ≤ k) hA)).trans (h2.mono fun k _ e => hown k e.symm)
    have hF2 : Frm (fun k => k = c1 ∨ D ≤ k) W (w'.setCell ⟨c1, 0, none⟩ v') := (hF1.mono fun k _ e => .inr e).trans ((Frm.one w' c1 0 v').mono fun k _ e => .inl e)
    have hoth : ∀ (k : Nat) (o : Obj), k ≠ c1 → W.heap[k]? = some o → (∀ vs z, o ≠ .cells vs 41 z) → (w'.setCell ⟨c1, 0, none⟩ v').heap[k]? = some o := by
      intro k o hk ho hne
      have hklt := (Array.getElem?_eq_some_iff.1 ho).1
      have hk1 : W1.heap[k]? = some o := ((hA.block k hklt).trans ho)
      have hk2 := (h2.block k (Nat.lt_of_lt_of_le hklt hA.size) (heap_ne_of_row hrow1 hk1 hne)).trans hk1
      exact ((Frm.one w' c1 0 v').block k (Array.getElem?_eq_some_iff.1 hk2).1 hk).trans hk2
    refine ⟨⟨hbw.cell, hbw.frozen, (h2.cell (p := ⟨c2, 0, none⟩) n2 hm1)⟩, ⟨v', hs, ?_⟩, ⟨hF2.size, fun k o ho hc' => ?_⟩, ⟨hF2.os, hF2.tape, hF2.output, hF2.size, fun k o hk hkc ho _ => ?_, fun k vs t z hk ht ho => ?_⟩, hF2⟩
    · exact h1.frm (Frm.one w' c1 0 v') fun g hg => fun e => by have := (h1.lt g hg).1; omega
    · refine hoth k o (fun e => ?_) ho (fun vs z e => by rw [e] at hc'; cases hc')
      subst e
      have := hb.symm.trans ho
      cases this
      cases hc'
    · exact (hF2.block k (Array.getElem?_eq_some_iff.1 ho).1 (fun h => h.elim hkc (fun h => by omega))).trans ho
    · exact hoth k _ (by omega) ho (fun vs' z' e => by cases e; exact ht rfl)
  have hfin := Lib.hid hfin
  clear hA hb hm hbx1 hm1
  go_enter Try.func23, Try.ntmps23
  go_wp2_with (at_builtin; (try rw [hW1]); refine wpl_app_ux rfl (.tmp 7) (.tmp 11) W1 D v _ l [(i, s)] rfl rfl hrow1 hux hlen hD1 ?_; intro v' w' h1 h2 h3; obtain ⟨⟨k1, k2, k3⟩, kf⟩ := hfin.out v' w' h1 h2; obtain ⟨ga, gc, rfl⟩ := h1.any; replace kf := Lib.hid kf; clear h1 h2 h3)
  go_ret
  refine ⟨by simp, ?_⟩
  have q := kf.out
  rw [show (l ++ [(i, s)]).length = l.length + 1 by simp] at q
  exact q
end Go.Proofs.Ytjjhgpdacijlmaa
