/-
  A ring of texts: its places, one behind the other, told to whoever asks.
-/
import Derived.Test.YtjjhgpdacijlmaaRing3S
import Derived.RangeFuncNested
import Derived.RangeFuncBound
import Derived.RangeFuncCalls
import Derived.RangeFuncLeaves
import Derived.RangeFuncFrom
import Derived.Shelf.Abstract
import Derived.Shelf.RegionOpen
import Derived.OwnWalkIn
import Derived.TacticsInMore
import Derived.LoopNIn
import Derived.LoopIn
namespace Go.Proofs.Ytjjhgpdacijlmaa
open Go.RowKit Go.Shelf
set_option linter.unusedVariables false
set_option linter.unusedSimpArgs false
attribute [local go_sem] Oper.semAt_some

def uptoS (n : Nat) : List Int := (List.range n).map fun (i : Nat) => (i : Int)
theorem uptoS_succ (n : Nat) : uptoS (n + 1) = uptoS n ++ [(n : Int)] := by
  unfold uptoS
  rw [List.range_succ, List.map_append]; rfl
theorem uptoS_len (n : Nat) : (uptoS n).length = n := by simp [uptoS]
theorem uptoS_pre (k d : Nat) : ∃ r, uptoS (k + d) = uptoS k ++ r := by
  induction d with
  | zero => exact ⟨[], by simp⟩
  | succ d ih =>
    obtain ⟨r, hr⟩ := ih
    exact ⟨r ++ [((k + d : Nat) : Int)], by rw [← Nat.add_assoc, uptoS_succ, hr, List.append_assoc]⟩
def PlRS (J : List Int → World → Prop) (S : Nat → Prop) (W : World) (N : Nat) (i : Value) (wr : World) : Prop := ∃ k : Nat, k ≤ N ∧ i = .int .i64 k ∧ J (uptoS k) wr ∧ Frm S W wr
set_option maxRecDepth 100000 in
set_option maxHeartbeats 1600000 in
theorem placesS_in (n : Nat) (hn : 2 ≤ n) (l r g fr N P : Nat) (C : List ByteArray) (S : Nat → Prop) (J Jx : List Int → World → Prop) (W : World)
    (hY : ∀ pre x W, J pre W → pre.length < N → YieldAt Fence.wide (n - 1) Try.prog l #[.int .i64 x] W fun e W' =>
      (e = .returned (.bool true) ∧ J (pre ++ [x]) W' ∧ Frm S W W') ∨ (e = .returned (.bool false) ∧ Jx (pre ++ [x]) W'))
    (hR : RGS W r g fr N C) (hP : W.cell? ⟨P, 0, none⟩ = some (.pointer (some ⟨r, 0, none⟩))) (hr : ¬ S r) (hg : ¬ S g) (hPs : ¬ S P) (h0 : J [] W) :
    CallsIn Fence.wide n Try.prog 30 #[.func (.yield l) #[] #[], .pointer (some ⟨P, 0, none⟩)] W fun e W' => (∃ v, e = .returned v) ∧
      ((∃ ys, ys = uptoS N ∧ J ys W') ∨ (∃ pre, pre <+: uptoS N ∧ Jx pre W')) := by
  have hNm : N ≤ 1000 := Nat.le_trans hR.hn hR.hm
  have h1n : 1 ≤ n := by omega
  refine callsIn_of_wp Try.func30 rfl trivial ?_ rfl
  simp only [Try.ntmps30, List.size_toArray, List.length_cons, List.length_nil, Nat.reduceAdd, Nat.reduceSub, Array.replicate_succ, Array.replicate_zero, List.push_toArray, List.append_toArray, List.nil_append, List.cons_append]
  gi_wp2
  gi_loopw [3] (fun i wr => PlRS J S W N i wr) (fun i _ => N - (intOf i).toNat)
  case atStart => exact ⟨0, Nat.zero_le _, rfl, h0, Frm.refl _ _⟩
  case round =>
    obtain ⟨k, hk, rfl, hJk, hfW⟩ := hrel
    have hR1 := hR.frm hfW hr hg
    have hcp : wr.cell? ⟨P, 0, none⟩ = some (.pointer (some ⟨r, 0, none⟩)) := hfW.cell (p := ⟨P, 0, none⟩) hPs hP
    have hlen := Lib.hid (callsIn_wide (n := n - 1).2 (lenS_any r g fr N C wr hR1))
    by_cases hlt : k < N
    · have hyy := hY (uptoS k) k wr hJk (by rw [uptoS_len]; exact hlt)
      rw [← uptoS_succ] at hyy
      obtain ⟨rr, hrr⟩ := uptoS_pre (k + 1) (N - (k + 1))
      rw [show k + 1 + (N - (k + 1)) = N by omega] at hrr
      have hrq := Lib.hid hrr
      have hd : decide ((k : Int) < (N : Int)) = true := decide_eq_true (by omega)
      clear hrr
      gi_wp2_with fail
      refine ⟨trivial, ?_⟩
      refine hlen.out.mono ?_
      rintro e w1 ⟨rfl, rfl⟩
      obtain ⟨fn, tm, asg, bdy, hy, hRd⟩ := hyy
      gi_wp2_with fail
      refine hRd.mono ?_
      rintro e W3 (⟨rfl, hJ3, hk3⟩ | ⟨rfl, hJx3⟩)
      · gi_wp2
        exact ⟨⟨k + 1, by omega, by go_num, hJ3, hfW.trans hk3⟩, by simp [intOf]; omega⟩
      · gi_wp2
        go_end0
        exact ⟨⟨_, rfl⟩, .inr ⟨uptoS (k + 1), ⟨rr, hrq.out.symm⟩, hJx3⟩⟩
    · obtain rfl : k = N := by omega
      have hd : decide ((k : Int) < (k : Int)) = false := decide_eq_false (by omega)
      gi_wp2_with fail
      refine ⟨trivial, ?_⟩
      refine hlen.out.mono ?_
      rintro e w1 ⟨rfl, rfl⟩
      gi_wp2_with fail
      refine ⟨fun _ h => (by cases h), ?_⟩
      gi_wp2_with fail
      go_end0
      exact ⟨⟨_, rfl⟩, .inl ⟨uptoS k, rfl, hJk⟩⟩
theorem placesS_in0 (n : Nat) (hn : 2 ≤ n) (l P : Nat) (J Jx : List Int → World → Prop) (W : World)
    (hP : W.cell? ⟨P, 0, none⟩ = some (.pointer none)) (h0 : J [] W) :
    CallsIn Fence.wide n Try.prog 30 #[.func (.yield l) #[] #[], .pointer (some ⟨P, 0, none⟩)] W fun e W' => (∃ v, e = .returned v) ∧
      ((∃ ys, ys = uptoS 0 ∧ J ys W') ∨ (∃ pre, pre <+: uptoS 0 ∧ Jx pre W')) := by
  have h1n : 1 ≤ n := by omega
  refine callsIn_of_wp Try.func30 rfl trivial ?_ rfl
  simp only [Try.ntmps30, List.size_toArray, List.length_cons, List.length_nil, Nat.reduceAdd, Nat.reduceSub, Array.replicate_succ, Array.replicate_zero, List.push_toArray, List.append_toArray, List.nil_append, List.cons_append]
  gi_wp2
  gi_loopw [3] (fun i wr => i = .int .i64 0 ∧ wr = W) (fun i _ => 0)
  case atStart => exact ⟨rfl, rfl⟩
  case round =>
    obtain ⟨rfl, rfl⟩ := hrel
    have hlen := Lib.hid (callsIn_wide (n := n - 1).2 (lenS_nil wr))
    gi_wp2_with fail
    refine ⟨trivial, ?_⟩
    refine hlen.out.mono ?_
    rintro e w1 ⟨rfl, rfl⟩
    gi_wp2_with fail
    refine ⟨fun _ h => (by cases h), ?_⟩
    gi_wp2_with fail
    go_end0
    exact ⟨⟨_, rfl⟩, .inl ⟨uptoS 0, rfl, h0⟩⟩
theorem placesS_stops (n : Nat) (hn : 2 ≤ n) (r g fr N P : Nat) (C : List ByteArray) (S : Nat → Prop) (w : World)
    (hR : RGS w r g fr N C) (hP : w.cell? ⟨P, 0, none⟩ = some (.pointer (some ⟨r, 0, none⟩))) (hr : ¬ S r) (hg : ¬ S g) (hPs : ¬ S P) :
    SeqStopsK Fence.wide n Try.prog 30 #[.pointer (some ⟨P, 0, none⟩)] (fun x : Int => #[Value.int .i64 x]) (Frm S) (fun ys => ys = uptoS N) (fun pre => pre <+: uptoS N) N w :=
  fun l J Jx W hW hJ _ hY h0 => placesS_in n hn l r g fr N P C S J Jx W hY (hR.below hW) (bkeep hW hP) hr hg hPs h0
theorem placesS_stops0 (n : Nat) (hn : 2 ≤ n) (P : Nat) (S : Nat → Prop) (w : World) (hP : w.cell? ⟨P, 0, none⟩ = some (.pointer none)) :
    SeqStopsK Fence.wide n Try.prog 30 #[.pointer (some ⟨P, 0, none⟩)] (fun x : Int => #[Value.int .i64 x]) (Frm S) (fun ys => ys = uptoS 0) (fun pre => pre <+: uptoS 0) 0 w :=
  fun l J Jx W hW hJ _ hY h0 => placesS_in0 n hn l P J Jx W (bkeep hW hP) h0
theorem frmK_bS {S : Nat → Prop} {w : World} (hS : ∀ k, w.heap.size ≤ k → S k) (W : World) (l : Nat) (o o' : Obj) (hl : w.heap.size ≤ l) (h : W.heap[l]? = some o) (_ : o.isCells = false) (_ : o.isWalk = false) : Frm S W (W.putObj l o') :=
  ⟨rfl, rfl, rfl, by simp, fun k hk hx => World.putObj_heap_other (fun e => hx (by subst e; exact hS _ hl))⟩
theorem placesS_fn (p : Option Addr) (w : World) : Calls Try.prog 28 #[.pointer p] w fun e w' => e = .returned (.func (.func 30) #[] #[.pointer (some ⟨w.heap.size, 0, none⟩)]) ∧ w' = w.alloc (.cells #[.pointer p] 49) := by
  go_enter Try.func28, Try.ntmps28
  go_wp2
  go_ret
  exact ⟨rfl, rfl⟩
theorem allS_fn (p : Option Addr) (w : World) : Calls Try.prog 26 #[.pointer p] w fun e w' => e = .returned (.func (.func 27) #[] #[.pointer (some ⟨w.heap.size, 0, none⟩)]) ∧ w' = w.alloc (.cells #[.pointer p] 49) := by
  go_enter Try.func26, Try.ntmps26
  go_wp2
  go_ret
  exact ⟨rfl, rfl⟩
end Go.Proofs.Ytjjhgpdacijlmaa
