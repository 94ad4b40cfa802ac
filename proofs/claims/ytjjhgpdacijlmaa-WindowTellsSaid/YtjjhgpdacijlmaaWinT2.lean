/-
  Two windows, one of which tells the other (chapter 27): a body that is taken; what was heard.
-/
import Derived.Test.YtjjhgpdacijlmaaWinT1
namespace Go.Proofs.Ytjjhgpdacijlmaa
open Go.RowKit
set_option linter.unusedVariables false
set_option linter.unusedSimpArgs false
/-- what lies in memory -/
structure WM (r u g p y z B : Nat) (w : World) (vs vt vo vh : Value) (S : List ByteArray) (hd t : Nat) (T : List ByteArray) (O : List U2) (H : List Int) (wr : World) : Prop where
  a : WX wr r u g (S.drop hd) ((hd : Int) + 1) 0
  b : WX wr p y z [] 1 (t : Int)
  rows : R4 wr B vs vt vo vh S T O H
  be : Below w.heap.size w wr
  sz : B ≤ wr.heap.size
variable {r u g p y z B : Nat} {w : World} {k : Nat} {vs vt vo vh : Value} {S T : List ByteArray} {hd t : Nat} {O : List U2} {H : List Int} {wr : World}
theorem WT.mem (h : WT r u g p y z B w k vs vt vo vh S hd t O H wr) : WM r u g p y z B w vs vt vo vh S hd t (S.take t) O H wr := ⟨h.a, h.b, h.rows, h.be, h.sz⟩
theorem WM.below (h : WM r u g p y z B w vs vt vo vh S hd t T O H wr) {W : World} (hb : Below wr.heap.size wr W) : WM r u g p y z B w vs vt vo vh S hd t T O H W :=
  ⟨h.a.below hb, h.b.below hb, h.rows.below hb, bt h.be hb, Nat.le_trans h.sz hb.size⟩
theorem WM.app_t (h : WM r u g p y z B w vs vt vo vh S hd t T O H wr) (hw : W2 r u g p y z B w) {W' : World} {v' : Value} {T' : List ByteArray} (h1 : Strs W' B v' T') (hf : Frm (fun k => some k = vt.ownBlock) wr W') (hs : Stay wr vt v') : WM r u g p y z B w vs v' vo vh S hd t T' O H W' := by
  obtain ⟨q1, q2, q3, q4, q5, q6, q7, q8, q9, q10, q11, q12, q13, q14, q15, q16, q17, q18, q19, q20, q21⟩ := hw
  have hbs := h.be.size
  have hown : ∀ j, some j = vt.ownBlock → B ≤ j := fun j hj => (h.rows.t.lt j hj.symm).1
  have hn : ∀ j, j < B → ¬ (some j = vt.ownBlock) := fun j hj e => by have := hown j e; omega
  exact ⟨h.a.frm hf (hn _ (by omega)) (hn _ (by omega)) (hn _ (by omega)), h.b.frm hf (hn _ (by omega)) (hn _ (by omega)) (hn _ (by omega)), h.rows.app_t h1 hf hs, below_frmW h.be hf (fun j hj => by have := hown j hj; omega) hbs, Nat.le_trans h.sz hf.size⟩
theorem WM.app_h (h : WM r u g p y z B w vs vt vo vh S hd t T O H wr) (hw : W2 r u g p y z B w) {W' : World} {v' : Value} {H' : List Int} (h1 : RowI W' B v' H') (hf : Frm (fun k => some k = vh.ownBlock) wr W') (hs : Stay wr vh v') : WM r u g p y z B w vs vt vo v' S hd t T O H' W' := by
  obtain ⟨q1, q2, q3, q4, q5, q6, q7, q8, q9, q10, q11, q12, q13, q14, q15, q16, q17, q18, q19, q20, q21⟩ := hw
  have hbs := h.be.size
  have hown : ∀ j, some j = vh.ownBlock → B ≤ j := fun j hj => (World.ownsRow.lt h.rows.h j hj.symm).1
  have hn : ∀ j, j < B → ¬ (some j = vh.ownBlock) := fun j hj e => by have := hown j e; omega
  exact ⟨h.a.frm hf (hn _ (by omega)) (hn _ (by omega)) (hn _ (by omega)), h.b.frm hf (hn _ (by omega)) (hn _ (by omega)) (hn _ (by omega)), h.rows.app_h h1 hf hs, below_frmW h.be hf (fun j hj => by have := hown j hj; omega) hbs, Nat.le_trans h.sz hf.size⟩
/-- Take, as memory -/
theorem WM.take (h : WM r u g p y z B w vs vt vo vh S hd t T O H wr) (hw : W2 r u g p y z B w) (ht : t ≤ 1000) (i : Nat) : Calls Try.prog 11 #[.pointer (some ⟨p, 0, none⟩), .int .i64 ((i : Int) + 1)] wr fun e w' =>
    e = .returned (.bool (decide (i = t))) ∧ WM r u g p y z B w vs vt vo vh S hd (if i = t then t + 1 else t) T O H w' ∧ Frm (fun k => k = p) wr w' := by
  obtain ⟨q1, q2, q3, q4, q5, q6, q7, q8, q9, q10, q11, q12, q13, q14, q15, q16, q17, q18, q19, q20, q21⟩ := hw
  refine (take_any h.b ⟨by omega, by omega⟩ ((i : Int) + 1)).mono fun e w' ⟨h1, h2, h3⟩ => ?_
  refine ⟨?_, ⟨h.a.frm h3 (by omega) (by omega) (by omega), ?_, h.rows.frm h3 (fun j hj => by omega), below_frmW h.be h3 (fun j hj => by omega) h.be.size, Nat.le_trans h.sz h3.size⟩, h3⟩
  · rw [h1]
    congr 2
    by_cases e : i = t
    · rw [decide_eq_true e, decide_eq_true (by omega)]
    · rw [decide_eq_false e, decide_eq_false (by omega)]
  · by_cases e : i = t
    · rw [if_pos (by omega)] at h2
      rw [if_pos e, show (((t + 1 : Nat)) : Int) = (i : Int) + 1 by omega]
      exact h2
    · rw [if_neg (by omega)] at h2
      rw [if_neg e]
      exact h2
/-- Heard of what was taken, as memory -/
theorem WM.heard (h : WM r u g p y z B w vs vt vo vh S hd t T O H wr) (hw : W2 r u g p y z B w) (hS : S.length ≤ 1000) (hhs : hd ≤ S.length) (n : Nat) (hn : n ≤ S.length) : Calls Try.prog 9 #[.pointer (some ⟨r, 0, none⟩), .int .i64 (n : Int)] wr fun e w' =>
    e = .returned (.tuple #[.int .i64 ((n - hd : Nat) : Int), .int .i64 0]) ∧ WM r u g p y z B w vs vt vo vh S (max hd n) t T O H w' := by
  obtain ⟨q1, q2, q3, q4, q5, q6, q7, q8, q9, q10, q11, q12, q13, q14, q15, q16, q17, q18, q19, q20, q21⟩ := hw
  have hdl : (S.drop hd).length = S.length - hd := List.length_drop
  refine (heard_any h.a ⟨by omega, by omega⟩ (n : Int)).mono fun e w' ⟨h1, h2, h3⟩ => ?_
  have e1 : hearK (S.drop hd) ((hd : Int) + 1) (n : Int) = n - hd := by
    unfold hearK
    rw [hdl, if_neg (by omega)]
    omega
  have e2 : hearE (S.drop hd) ((hd : Int) + 1) (n : Int) = 0 := by
    unfold hearE
    rw [hdl, if_neg (by omega)]
  rw [e1] at h1 h2
  rw [e2] at h1
  rw [List.drop_drop, show hd + (n - hd) = max hd n by omega, show ((hd : Int) + 1 + ((n - hd : Nat) : Int)) = ((max hd n : Nat) : Int) + 1 by omega] at h2
  exact ⟨h1, h2, h.b.frm h3 (by omega) (by omega) (by omega), h.rows.frm h3 (fun j hj => by omega), below_frmW h.be h3 (fun j hj => by omega) h.be.size, Nat.le_trans h.sz h3.size⟩
theorem RowI.at {w : World} {B : Nat} {v : Value} {l : List Int} (h : RowI w B v l) (h0 : l ≠ []) : ∃ g c, v = .slice (some ⟨g, 0, none⟩) l.length c ∧ ∀ (j : Nat) (x : Int), l[j]? = some x → w.cell? ⟨g, j, none⟩ = some (.int .i64 x) := by
  have h' := h
  rcases h.2 with ⟨_, h2⟩ | ⟨g, cap, cur, rfl, hg, hh, hc, _⟩
  · exact absurd (List.length_eq_zero_iff.1 h2) h0
  · refine ⟨g, cap, rfl, fun j x hj => ?_⟩
    have hjl := (List.getElem?_eq_some_iff.1 hj).1
    refine (World.ownsRow.cellAt h' j (by omega)).trans ?_
    rw [List.getElem?_map, hj]; rfl
theorem idx_in (c : Int) (L : Nat) (hL : 0 < L) (hL2 : L ≤ 1000000) : ∃ j : Nat, wrap64 ((IntKind.u64.wrap c).tmod ↑L) = j ∧ j < L := by
  have h1 : 0 ≤ IntKind.u64.wrap c := by rw [IntKind.wrap_u64]; omega
  have h2 := Int.tmod_lt_of_pos (IntKind.u64.wrap c) (b := (L : Int)) (by omega)
  have h3 := Int.tmod_nonneg (L : Int) h1
  refine ⟨((IntKind.u64.wrap c).tmod ↑L).toNat, ?_, by omega⟩
  rw [IntWalk.wrap64_in _ ⟨by omega, by omega⟩]
  omega
theorem WT.of (h : WM r u g p y z B w vs vt vo vh S hd t (S.take t) O H wr) (hs : hd ≤ t) (ts : t ≤ S.length) (sk : S.length ≤ k) (oo : ∀ x ∈ O, ∃ i : Nat, i < S.length ∧ x = ((i : Int) + 1, S.getD i ⟨#[]⟩)) (ok : O.length ≤ 8 * k) (hh : ∀ x ∈ H, 0 ≤ x ∧ x ≤ (t : Int)) (h1 : 1 ≤ H.length) (hk : H.length ≤ k + 1) (k6 : k ≤ 1000) : WT r u g p y z B w k vs vt vo vh S hd t O H wr :=
  ⟨h.a, h.b, h.rows, h.be, h.sz, hs, ts, sk, oo, ok, hh, h1, hk, k6⟩
end Go.Proofs.Ytjjhgpdacijlmaa
