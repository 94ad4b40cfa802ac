/-
  Two windows, one of which tells the other (chapter 27): a step.
-/
import Derived.Test.YtjjhgpdacijlmaaWinT0
namespace Go.Proofs.Ytjjhgpdacijlmaa
open Go.RowKit
set_option linter.unusedVariables false
set_option linter.unusedSimpArgs false
/-- where the two windows lie -/
structure W2 (r u g p y z B : Nat) (w : World) : Prop where
  r0 : w.heap.size ≤ r
  u0 : w.heap.size ≤ u
  g0 : w.heap.size ≤ g
  p0 : w.heap.size ≤ p
  y0 : w.heap.size ≤ y
  z0 : w.heap.size ≤ z
  rB : r < B
  uB : u < B
  gB : g < B
  pB : p < B
  yB : y < B
  zB : z < B
  rp : r < p
  ry : r < y
  rz : r < z
  up : u < p
  uy : u < y
  uz : u < z
  gp : g < p
  gy : g < y
  gz : g < z
/-- between two steps: S sent, hd of them heard, t of them taken; O told, H what was heard of -/
structure WT (r u g p y z B : Nat) (w : World) (k : Nat) (vs vt vo vh : Value) (S : List ByteArray) (hd t : Nat) (O : List U2) (H : List Int) (wr : World) : Prop where
  a : WX wr r u g (S.drop hd) ((hd : Int) + 1) 0
  b : WX wr p y z [] 1 (t : Int)
  rows : R4 wr B vs vt vo vh S (S.take t) O H
  be : Below w.heap.size w wr
  sz : B ≤ wr.heap.size
  hs : hd ≤ t
  ts : t ≤ S.length
  sk : S.length ≤ k
  oo : ∀ x ∈ O, ∃ i : Nat, i < S.length ∧ x = ((i : Int) + 1, S.getD i ⟨#[]⟩)
  ok : O.length ≤ 8 * k
  hh : ∀ x ∈ H, 0 ≤ x ∧ x ≤ (t : Int)
  h1 : 1 ≤ H.length
  hk : H.length ≤ k + 1
  k6 : k ≤ 1000
variable {r u g p y z B : Nat} {w : World} {k : Nat} {vs vt vo vh : Value} {S : List ByteArray} {hd t : Nat} {O : List U2} {H : List Int} {wr : World}
theorem WT.h8 (h : WT r u g p y z B w k vs vt vo vh S hd t O H wr) : S.length ≤ hd + 8 := by
  have := h.a.len
  rw [List.length_drop] at this
  omega
theorem WT.below (h : WT r u g p y z B w k vs vt vo vh S hd t O H wr) {W : World} (hb : Below wr.heap.size wr W) : WT r u g p y z B w k vs vt vo vh S hd t O H W :=
  ⟨h.a.below hb, h.b.below hb, h.rows.below hb, bt h.be hb, Nat.le_trans h.sz hb.size, h.hs, h.ts, h.sk, h.oo, h.ok, h.hh, h.h1, h.hk, h.k6⟩
theorem WT.next (h : WT r u g p y z B w k vs vt vo vh S hd t O H wr) (hk : k + 1 ≤ 1000) : WT r u g p y z B w (k + 1) vs vt vo vh S hd t O H wr :=
  ⟨h.a, h.b, h.rows, h.be, h.sz, h.hs, h.ts, by have := h.sk; omega, h.oo, by have := h.ok; omega, h.hh, h.h1, by have := h.hk; omega, hk⟩
/-- a body is sent -/
theorem WT.send (h : WT r u g p y z B w k vs vt vo vh S hd t O H wr) (hw : W2 r u g p y z B w) (x : ByteArray) : Calls Try.prog 7 #[.pointer (some ⟨r, 0, none⟩), .string x] wr fun e w' =>
    e = .returned (.tuple (if S.length < hd + 8 then #[.int .i64 ((S.length : Int) + 1), .int .i64 0] else #[.int .i64 0, .int .i64 6])) ∧ WX w' r u g (if S.length < hd + 8 then (S ++ [x]).drop hd else S.drop hd) ((hd : Int) + 1) 0 ∧ WX w' p y z [] 1 (t : Int) ∧ R4 w' B vs vt vo vh S (S.take t) O H ∧ Below w.heap.size w w' ∧ B ≤ w'.heap.size := by
  have h6 := h.k6
  have hsk := h.sk
  have hhs := h.hs
  have hts := h.ts
  obtain ⟨q1, q2, q3, q4, q5, q6, q7, q8, q9, q10, q11, q12, q13, q14, q15, q16, q17, q18, q19, q20, q21⟩ := hw
  refine (send_any h.a ⟨by omega, by omega⟩ x).mono fun e w' ⟨h1, h2, h3⟩ => ?_
  have hdl : (S.drop hd).length = S.length - hd := List.length_drop
  rw [hdl] at h1 h2
  refine ⟨?_, ?_, h.b.frm h3 (by omega) (by omega) (by omega), h.rows.frm h3 (fun j hj => by omega), below_frmW h.be h3 (fun j hj => by omega) h.be.size, Nat.le_trans h.sz h3.size⟩
  · rw [h1]
    by_cases hl : S.length < hd + 8
    · rw [if_pos hl, if_pos (by omega), show ((hd : Int) + 1 + ((S.length - hd : Nat) : Int)) = (S.length : Int) + 1 by omega]
    · rw [if_neg hl, if_neg (by omega)]
  · by_cases hl : S.length < hd + 8
    · rw [if_pos hl, List.drop_append_of_le_length (by omega)]
      rw [if_pos (by omega)] at h2
      exact h2
    · rw [if_neg hl]
      rw [if_neg (by omega)] at h2
      exact h2
/-- what was sent is kept -/
theorem WT.sent (h : WT r u g p y z B w k vs vt vo vh S hd t O H wr) (hw : W2 r u g p y z B w) (hk : k + 1 ≤ 1000) (x : ByteArray) {W W' : World} {v' : Value} (ha : WX W r u g ((S ++ [x]).drop hd) ((hd : Int) + 1) 0) (hb : WX W p y z [] 1 (t : Int)) (hr : R4 W B vs vt vo vh S (S.take t) O H) (hbe : Below w.heap.size w W) (hz : B ≤ W.heap.size)
    (h1 : Strs W' B v' (S ++ [x])) (hf : Frm (fun k => some k = vs.ownBlock) W W') (hs : Stay W vs v') : WT r u g p y z B w (k + 1) v' vt vo vh (S ++ [x]) hd t O H W' := by
  obtain ⟨q1, q2, q3, q4, q5, q6, q7, q8, q9, q10, q11, q12, q13, q14, q15, q16, q17, q18, q19, q20, q21⟩ := hw
  have hbs := hbe.size
  have hown : ∀ j, some j = vs.ownBlock → B ≤ j := fun j hj => (hr.s.lt j hj.symm).1
  have hn : ∀ j, j < B → ¬ (some j = vs.ownBlock) := fun j hj e => by have := hown j e; omega
  have hts := h.ts
  have hsk := h.sk
  have e1 : (S ++ [x]).take t = S.take t := List.take_append_of_le_length hts
  refine ⟨ha.frm hf (hn _ (by omega)) (hn _ (by omega)) (hn _ (by omega)), hb.frm hf (hn _ (by omega)) (hn _ (by omega)) (hn _ (by omega)), by rw [e1]; exact hr.app_s h1 hf hs, below_frmW hbe hf (fun j hj => by have := hown j hj; omega) hbs, Nat.le_trans hz hf.size, h.hs, by simp; omega, by simp; omega, ?_, by have := h.ok; omega, h.hh, h.h1, by have := h.hk; omega, hk⟩
  intro x' hx'
  obtain ⟨i, hi, hx⟩ := h.oo x' hx'
  refine ⟨i, by simp; omega, ?_⟩
  rw [hx, List.getD_eq_getElem?_getD, List.getD_eq_getElem?_getD, List.getElem?_append_left hi]
/-- what is told is kept -/
theorem WT.told (h : WT r u g p y z B w k vs vt vo vh S hd t O H wr) (hw : W2 r u g p y z B w) (hk : k + 1 ≤ 1000) {W' : World} {v' : Value}
    (h1 : URow W' B v' (O ++ gotS ((hd : Int) + 1) (S.drop hd) 100)) (hf : Frm (fun k => some k = vo.ownBlock) wr W') (hs : Stay wr vo v') : WT r u g p y z B w (k + 1) vs vt v' vh S hd t (O ++ gotS ((hd : Int) + 1) (S.drop hd) 100) H W' := by
  obtain ⟨q1, q2, q3, q4, q5, q6, q7, q8, q9, q10, q11, q12, q13, q14, q15, q16, q17, q18, q19, q20, q21⟩ := hw
  have hbs := h.be.size
  have hr := h.rows
  have hown : ∀ j, some j = vo.ownBlock → B ≤ j := fun j hj => (hr.o.lt j hj.symm).1
  have hn : ∀ j, j < B → ¬ (some j = vo.ownBlock) := fun j hj e => by have := hown j e; omega
  have hts := h.ts
  have hsk := h.sk
  have h8 := h.h8
  have hhs := h.hs
  have h66 := h.k6
  have hgl : (gotS ((hd : Int) + 1) (S.drop hd) 100).length ≤ 8 := by rw [gotS_len, List.length_drop]; omega
  refine ⟨h.a.frm hf (hn _ (by omega)) (hn _ (by omega)) (hn _ (by omega)), h.b.frm hf (hn _ (by omega)) (hn _ (by omega)) (hn _ (by omega)), hr.app_o h1 hf hs, below_frmW h.be hf (fun j hj => by have := hown j hj; omega) hbs, Nat.le_trans h.sz hf.size, h.hs, hts, by omega, ?_, by rw [List.length_append]; have := h.ok; omega, h.hh, h.h1, by have := h.hk; omega, hk⟩
  intro x' hx'
  rcases List.mem_append.1 hx' with hx | hx
  · exact h.oo x' hx
  · obtain ⟨i, hi, rfl⟩ := List.getElem_of_mem hx
    have hg := gotS_get ((hd : Int) + 1) (S.drop hd) 100 i ⟨by omega, by omega⟩ (by rw [List.length_drop]; omega) hi
    rw [List.getElem?_eq_getElem hi, Option.some.injEq] at hg
    have hl := gotS_len ((hd : Int) + 1) (S.drop hd) 100
    rw [List.length_drop] at hl
    refine ⟨hd + i, by omega, ?_⟩
    rw [hg, List.getD_eq_getElem?_getD, List.getElem?_drop, List.getD_eq_getElem?_getD]
    congr 1
    omega
/-- a body is taken, or not -/
theorem WT.take (h : WT r u g p y z B w k vs vt vo vh S hd t O H wr) (hw : W2 r u g p y z B w) (i : Nat) : Calls Try.prog 11 #[.pointer (some ⟨p, 0, none⟩), .int .i64 ((i : Int) + 1)] wr fun e w' =>
    e = .returned (.bool (decide (i = t))) ∧ WX w' r u g (S.drop hd) ((hd : Int) + 1) 0 ∧ WX w' p y z [] 1 ((if i = t then t + 1 else t : Nat) : Int) ∧ R4 w' B vs vt vo vh S (S.take t) O H ∧ Below w.heap.size w w' ∧ B ≤ w'.heap.size := by
  have h6 := h.k6
  have hsk := h.sk
  have hts := h.ts
  obtain ⟨q1, q2, q3, q4, q5, q6, q7, q8, q9, q10, q11, q12, q13, q14, q15, q16, q17, q18, q19, q20, q21⟩ := hw
  refine (take_any h.b ⟨by omega, by omega⟩ ((i : Int) + 1)).mono fun e w' ⟨h1, h2, h3⟩ => ?_
  refine ⟨?_, h.a.frm h3 (by omega) (by omega) (by omega), ?_, h.rows.frm h3 (fun j hj => by omega), below_frmW h.be h3 (fun j hj => by omega) h.be.size, Nat.le_trans h.sz h3.size⟩
  · rw [h1]
    congr 2
    by_cases e : i = t
    · rw [decide_eq_true e, decide_eq_true (by omega)]
    · rw [decide_eq_false e, decide_eq_false (by omega)]
  · by_cases e : i = t
    · rw [if_pos (by omega)] at h2
      rw [if_pos e, show (((t + 1 : Nat)) : Int) = (i : Int) + 1 by omega]
      exact h2
    · rw [if_neg (by omega)] at h2
      rw [if_neg e]
      exact h2
theorem take_next {i : Nat} (hi : i < S.length) : S.take i ++ [S.getD i ⟨#[]⟩] = S.take (i + 1) := by
  rw [List.take_add_one, List.getD_eq_getElem?_getD, List.getElem?_eq_getElem hi]
  rfl
end Go.Proofs.Ytjjhgpdacijlmaa
