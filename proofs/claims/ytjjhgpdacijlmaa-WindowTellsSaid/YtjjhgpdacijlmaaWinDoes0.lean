/-
  A window and the reference's, step by step (chapter 27).
-/
import Derived.Test.YtjjhgpdacijlmaaWinWork
import Derived.Test.YtjjhgpdacijlmaaWinRef
namespace Go.Proofs.Ytjjhgpdacijlmaa
open Go.RowKit
set_option linter.unusedVariables false
set_option linter.unusedSimpArgs false
/-- where the two windows lie -/
structure Ws (r u g q B : Nat) (w : World) : Prop where
  r0 : w.heap.size ≤ r
  u0 : w.heap.size ≤ u
  g0 : w.heap.size ≤ g
  q0 : w.heap.size ≤ q
  rB : r < B
  uB : u < B
  gB : g < B
  qB : q < B
  qr : q ≠ r
  qu : q ≠ u
  qg : q ≠ g
/-- both windows behind k steps: the program's under way L, first f; the reference's S, of which hd were heard -/
structure WD (r u g q B : Nat) (w : World) (k : Nat) (S : List ByteArray) (hd : Nat) (l : Int) (wr : World) : Prop where
  x : WX wr r u g (S.drop hd) ((hd : Int) + 1) l
  y : RX wr q B S hd l
  be : Below w.heap.size w wr
  sz : B ≤ wr.heap.size
  hs : hd ≤ S.length
  sk : S.length ≤ k
  l0 : 0 ≤ l
  lk : l ≤ k
  k6 : k ≤ 1000
variable {r u g q B : Nat} {w : World} {k : Nat} {S : List ByteArray} {hd : Nat} {l : Int} {wr : World}
theorem WD.h8 (h : WD r u g q B w k S hd l wr) : S.length ≤ hd + 8 := by
  have := h.x.len
  rw [List.length_drop] at this
  omega
theorem WD.drewN (h : WD r u g q B w k S hd l wr) (m : Nat) : WD r u g q B w k S hd l (wr.drewN m) := ⟨h.x.drewN m, h.y.drewN m, bt h.be (bdraws0 _ _), h.sz, h.hs, h.sk, h.l0, h.lk, h.k6⟩
theorem WD.next (h : WD r u g q B w k S hd l wr) (hk : k + 1 ≤ 1000) : WD r u g q B w (k + 1) S hd l wr := ⟨h.x, h.y, h.be, h.sz, h.hs, by have := h.sk; omega, h.l0, by have := h.lk; omega, hk⟩
def sndV (S : List ByteArray) (hd : Nat) : Value := .tuple (if S.length < hd + 8 then #[.int .i64 ((S.length : Int) + 1), .int .i64 0] else #[.int .i64 0, .int .i64 6])
def sndL (S : List ByteArray) (hd : Nat) (x : ByteArray) : List ByteArray := if S.length < hd + 8 then S ++ [x] else S
/-- a body is sent: the program, then the reference -/
theorem WD.send1 (h : WD r u g q B w k S hd l wr) (hw : Ws r u g q B w) (x : ByteArray) : Calls Try.prog 7 #[.pointer (some ⟨r, 0, none⟩), .string x] wr fun e w' =>
    e = .returned (sndV S hd) ∧ WX w' r u g ((sndL S hd x).drop hd) ((hd : Int) + 1) l ∧ RX w' q B S hd l ∧ Below w.heap.size w w' ∧ B ≤ w'.heap.size := by
  have h6 := h.k6
  have hsk := h.sk
  have hhs := h.hs
  refine (send_any h.x ⟨by omega, by omega⟩ x).mono fun e w' ⟨h1, h2, h3⟩ => ?_
  have hdl : (S.drop hd).length = S.length - hd := List.length_drop
  refine ⟨?_, ?_, h.y.frm h3 (by have := hw.qu; have := hw.qg; omega) (fun j hj => by have := hw.uB; have := hw.gB; omega), below_frmW h.be h3 (fun j hj => by have := hw.u0; have := hw.g0; omega) h.be.size, Nat.le_trans h.sz h3.size⟩
  · rw [h1, hdl]
    unfold sndV
    by_cases hl : S.length < hd + 8
    · rw [if_pos hl, if_pos (by omega), show ((hd : Int) + 1 + ((S.length - hd : Nat) : Int)) = (S.length : Int) + 1 by omega]
    · rw [if_neg hl, if_neg (by omega)]
  · rw [hdl] at h2
    unfold sndL
    by_cases hl : S.length < hd + 8
    · rw [if_pos hl, List.drop_append_of_le_length h.hs]
      rw [if_pos (by omega)] at h2
      exact h2
    · rw [if_neg hl]
      rw [if_neg (by omega)] at h2
      exact h2
theorem WD.send2 (h : WD r u g q B w k S hd l wr) (hw : Ws r u g q B w) (hk : k + 1 ≤ 1000) (x : ByteArray) {W : World} (hX : WX W r u g ((sndL S hd x).drop hd) ((hd : Int) + 1) l) (hY : RX W q B S hd l) (hb : Below w.heap.size w W) (hz : B ≤ W.heap.size) : Calls Try.prog 8 #[.pointer (some ⟨q, 0, none⟩), .string x] W fun e w' =>
    e = .returned (sndV S hd) ∧ WD r u g q B w (k + 1) (sndL S hd x) hd l w' := by
  have hsk := h.sk
  have hhs := h.hs
  refine (rsend_any hY ⟨by omega, by omega⟩ (by omega) hz x).mono fun e w' ⟨h1, h2, h3⟩ => ?_
  have hl0 := h.l0
  have hlk := h.lk
  refine ⟨?_, hX.frm h3 (by have := hw.qr; have := hw.rB; omega) (by have := hw.qu; have := hw.uB; omega) (by have := hw.qg; have := hw.gB; omega), ?_, below_frmW hb h3 (fun j hj => by have := hw.q0; have := hb.size; omega) hb.size, Nat.le_trans hz h3.size, ?_, ?_, hl0, by omega, hk⟩
  · rw [h1]
    unfold sndV
    by_cases hl : S.length < hd + 8
    · rw [if_pos hl, if_pos (by omega)]
    · rw [if_neg hl, if_neg (by omega)]
  · unfold sndL
    by_cases hl : S.length < hd + 8
    · rw [if_pos hl]
      rw [if_pos (by omega)] at h2
      exact h2
    · rw [if_neg hl]
      rw [if_neg (by omega)] at h2
      exact h2
  · unfold sndL
    split
    · rw [List.length_append]; omega
    · exact hhs
  · unfold sndL
    split
    · rw [List.length_append]; simp; omega
    · omega
def hdV (S : List ByteArray) (hd : Nat) (n : Int) : Value := .tuple #[.int .i64 (if n < 0 ∨ (S.length : Int) < n then 0 else max (n - hd) 0), .int .i64 (if n < 0 ∨ (S.length : Int) < n then 3 else 0)]
def hdN (S : List ByteArray) (hd : Nat) (n : Int) : Nat := if n < 0 ∨ (S.length : Int) < n then hd else hd + (max (n - hd) 0).toNat
theorem WD.hear1 (h : WD r u g q B w k S hd l wr) (hw : Ws r u g q B w) (n : Int) : Calls Try.prog 9 #[.pointer (some ⟨r, 0, none⟩), .int .i64 n] wr fun e w' =>
    e = .returned (hdV S hd n) ∧ WX w' r u g (S.drop (hdN S hd n)) ((hdN S hd n : Int) + 1) l ∧ RX w' q B S hd l ∧ Below w.heap.size w w' ∧ B ≤ w'.heap.size := by
  have h6 := h.k6
  have hsk := h.sk
  have hhs := h.hs
  refine (heard_any h.x ⟨by omega, by omega⟩ n).mono fun e w' ⟨h1, h2, h3⟩ => ?_
  have hdl : (S.drop hd).length = S.length - hd := List.length_drop
  refine ⟨?_, ?_, h.y.frm h3 (by have := hw.qr; have := hw.qu; have := hw.qg; omega) (fun j hj => by have := hw.rB; have := hw.uB; have := hw.gB; omega), below_frmW h.be h3 (fun j hj => by have := hw.r0; have := hw.u0; have := hw.g0; omega) h.be.size, Nat.le_trans h.sz h3.size⟩
  · rw [h1]
    unfold hdV hearK hearE
    rw [hdl]
    by_cases hl : n < 0 ∨ (S.length : Int) < n
    · rw [if_pos hl, if_pos hl, if_pos (by omega), if_pos (by omega)]; rfl
    · rw [if_neg hl, if_neg hl, if_neg (by omega), if_neg (by omega), show (((n - ((hd : Int) + 1) + 1).toNat : Nat) : Int) = max (n - hd) 0 by omega]
  · unfold hearK at h2
    rw [hdl, List.drop_drop] at h2
    unfold hdN
    by_cases hl : n < 0 ∨ (S.length : Int) < n
    · rw [if_pos hl]
      rw [if_pos (by omega)] at h2
      simpa using h2
    · rw [if_neg hl]
      rw [if_neg (by omega)] at h2
      have e1 : hd + (n - ((hd : Int) + 1) + 1).toNat = hd + (max (n - hd) 0).toNat := by omega
      rw [e1, show ((hd : Int) + 1 + (((n - ((hd : Int) + 1) + 1).toNat : Nat) : Int)) = ((hd + (max (n - hd) 0).toNat : Nat) : Int) + 1 by omega] at h2
      exact h2
theorem hdN_le (hhs : hd ≤ S.length) (n : Int) : hdN S hd n ≤ S.length := by
  unfold hdN
  split <;> omega
theorem WD.hear2 (h : WD r u g q B w k S hd l wr) (hw : Ws r u g q B w) (hk : k + 1 ≤ 1000) (n : Int) {W : World} (hX : WX W r u g (S.drop (hdN S hd n)) ((hdN S hd n : Int) + 1) l) (hY : RX W q B S hd l) (hb : Below w.heap.size w W) (hz : B ≤ W.heap.size) : Calls Try.prog 10 #[.pointer (some ⟨q, 0, none⟩), .int .i64 n] W fun e w' =>
    e = .returned (hdV S hd n) ∧ WD r u g q B w (k + 1) S (hdN S hd n) l w' := by
  have hsk := h.sk
  have hhs := h.hs
  have h6 := h.k6
  refine (rhear_any hY ⟨by omega, by omega⟩ (by omega) n).mono fun e w' ⟨h1, h2, h3⟩ => ?_
  have hl0 := h.l0
  have hlk := h.lk
  refine ⟨?_, hX.frm h3 (fun e => hw.qr e.symm) (fun e => hw.qu e.symm) (fun e => hw.qg e.symm), ?_, below_frmW hb h3 (fun j hj => by have := hw.q0; omega) hb.size, Nat.le_trans hz h3.size, hdN_le hhs n, by omega, hl0, by omega, hk⟩
  · rw [h1]
    rfl
  · have e1 : (hd : Int) + rhearK S hd n = (hdN S hd n : Int) := by
      unfold rhearK hdN
      split <;> omega
    rw [e1] at h2
    exact h2
theorem WD.take1 (h : WD r u g q B w k S hd l wr) (hw : Ws r u g q B w) (n : Int) : Calls Try.prog 11 #[.pointer (some ⟨r, 0, none⟩), .int .i64 n] wr fun e w' =>
    e = .returned (.bool (decide (n = l + 1))) ∧ WX w' r u g (S.drop hd) ((hd : Int) + 1) (if n = l + 1 then n else l) ∧ RX w' q B S hd l ∧ Below w.heap.size w w' ∧ B ≤ w'.heap.size := by
  have h6 := h.k6
  have hl0 := h.l0
  have hlk := h.lk
  refine (take_any h.x ⟨by omega, by omega⟩ n).mono fun e w' ⟨h1, h2, h3⟩ => ?_
  exact ⟨h1, h2, h.y.frm h3 (fun e => hw.qr e) (fun j hj => by have := hw.rB; omega), below_frmW h.be h3 (fun j hj => by have := hw.r0; omega) h.be.size, Nat.le_trans h.sz h3.size⟩
theorem WD.take2 (h : WD r u g q B w k S hd l wr) (hw : Ws r u g q B w) (hk : k + 1 ≤ 1000) (n : Int) {W : World} (hX : WX W r u g (S.drop hd) ((hd : Int) + 1) (if n = l + 1 then n else l)) (hY : RX W q B S hd l) (hb : Below w.heap.size w W) (hz : B ≤ W.heap.size) : Calls Try.prog 12 #[.pointer (some ⟨q, 0, none⟩), .int .i64 n] W fun e w' =>
    e = .returned (.bool (decide (n = l + 1))) ∧ WD r u g q B w (k + 1) S hd (if n = l + 1 then n else l) w' := by
  have hsk := h.sk
  have hl0 := h.l0
  have hlk := h.lk
  refine (rtake_any hY ⟨by omega, by omega⟩ n).mono fun e w' ⟨h1, h2, h3⟩ => ?_
  exact ⟨h1, hX.frm h3 (fun e => hw.qr e.symm) (fun e => hw.qu e.symm) (fun e => hw.qg e.symm), h2, below_frmW hb h3 (fun j hj => by have := hw.q0; omega) hb.size, Nat.le_trans hz h3.size, h.hs, by omega, by split <;> omega, by split <;> omega, hk⟩
end Go.Proofs.Ytjjhgpdacijlmaa
