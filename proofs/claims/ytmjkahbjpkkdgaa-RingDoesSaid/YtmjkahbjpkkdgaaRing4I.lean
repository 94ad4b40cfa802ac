/-
  A ring of numbers: its places, one behind the other, told to whoever asks.
-/
import Derived.Test.YtmjkahbjpkkdgaaRing3I
import Derived.RangeFuncNested
import Derived.RangeFuncBound
import Derived.RangeFuncCalls
import Derived.RangeFuncLeaves
import Derived.RangeFuncFrom
import Derived.Shelf.Abstract
import Derived.Shelf.RegionOpen
import Derived.OwnWalkIn
import Derived.TacticsInMore
import Derived.LoopNIn
import Derived.LoopIn
namespace Go.Proofs.Ytmjkahbjpkkdgaa
open Go.RowKit Go.Shelf
set_option linter.unusedVariables false
set_option linter.unusedSimpArgs false
attribute [local go_sem] Oper.semAt_some

def uptoI (n : Nat) : List Int := (List.range n).map fun (i : Nat) => (i : Int)
theorem uptoI_succ (n : Nat) : uptoI (n + 1) = uptoI n ++ [(n : Int)] := by
  unfold uptoI
  rw [List.range_succ, List.map_append]; rfl
theorem uptoI_len (n : Nat) : (uptoI n).length = n := by simp [uptoI]
theorem uptoI_pre (k d : Nat) : ∃ r, uptoI (k + d) = uptoI k ++ r := by
  induction d with
  | zero => exact ⟨[], by simp⟩
  | succ d ih =>
    obtain ⟨r, hr⟩ := ih
    exact ⟨r ++ [((k + d : Nat) : Int)], by rw [← Nat.add_assoc, uptoI_succ, hr, List.append_assoc]⟩
def PlRI (J : List Int → World → Prop) (S : Nat → Prop) (W : World) (N : Nat) (i : Value) (wr : World) : Prop := ∃ k : Nat, k ≤ N ∧ i = .int .i64 k ∧ J (uptoI k) wr ∧ Frm S W wr
set_option maxRecDepth 100000 in
set_option maxHeartbeats 1600000 in
theorem placesI_in (n : Nat) (hn : 2 ≤ n) (l r g fr N P : Nat) (C : List Int) (S : Nat → Prop) (J Jx : List Int → World → Prop) (W : World)
    (hY : ∀ pre x W, J pre W → pre.length < N → YieldAt Fence.wide (n - 1) Try.prog l #[.int .i64 x] W fun e W' =>
      (e = .returned (.bool true) ∧ J (pre ++ [x]) W' ∧ Frm S W W') ∨ (e = .returned (.bool false) ∧ Jx (pre ++ [x]) W'))
    (hR : RGI W r g fr N C) (hP : W.cell? ⟨P, 0, none⟩ = some (.pointer (some ⟨r, 0, none⟩))) (hr : ¬ S r) (hg : ¬ S g) (hPs : ¬ S P) (h0 : J [] W) :
    CallsIn Fence.wide n Try.prog 34 #[.func (.yield l) #[] #[], .pointer (some ⟨P, 0, none⟩)] W fun e W' => (∃ v, e = .returned v) ∧
      ((∃ ys, ys = uptoI N ∧ J ys W') ∨ (∃ pre, pre <+: uptoI N ∧ Jx pre W')) := by
  have hNm : N ≤ 1000 := Nat.le_trans hR.hn hR.hm
  have h1n : 1 ≤ n := by omega
  refine callsIn_of_wp Try.func34 rfl trivial ?_ rfl
  simp only [Try.ntmps34, List.size_toArray, List.length_cons, List.length_nil, Nat.reduceAdd, Nat.reduceSub, Array.replicate_succ, Array.replicate_zero, List.push_toArray, List.append_toArray, List.nil_append, List.cons_append]
  gi_wp2
  gi_loopw [3] (fun i wr => PlRI J S W N i wr) (fun i _ => N - (intOf i).toNat)
  case atStart => exact ⟨0, Nat.zero_le _, rfl, h0, Frm.refl _ _⟩
  case round =>
    obtain ⟨k, hk, rfl, hJk, hfW⟩ := hrel
    have hR1 := hR.frm hfW hr hg
    have hcp : wr.cell? ⟨P, 0, none⟩ = some (.pointer (some ⟨r, 0, none⟩)) := hfW.cell (p := ⟨P, 0, none⟩) hPs hP
    have hlen := Lib.hid (callsIn_wide (n := n - 1).2 (lenI_any r g fr N C wr hR1))
    by_cases hlt : k < N
    · have hyy := hY (uptoI k) k wr hJk (by rw [uptoI_len]; exact hlt)
      rw [← uptoI_succ] at hyy
      obtain ⟨rr, hrr⟩ := uptoI_pre (k + 1) (N - (k + 1))
      rw [show k + 1 + (N - (k + 1)) = N by omega] at hrr
      have hrq := Lib.hid hrr
      have hd : decide ((k : Int) < (N : Int)) = true := decide_eq_true (by omega)
      clear hrr
      gi_wp2_with fail
      refine ⟨trivial, ?_⟩
      refine hlen.out.mono ?_
      rintro e w1 ⟨rfl, rfl⟩
      obtain ⟨fn, tm, asg, bdy, hy, hRd⟩ := hyy
      gi_wp2_with fail
      refine hRd.mono ?_
      rintro e W3 (⟨rfl, hJ3, hk3⟩ | ⟨rfl, hJx3⟩)
      · gi_wp2
        exact ⟨⟨k + 1, by omega, by go_num, hJ3, hfW.trans hk3⟩, by simp [intOf]; omega⟩
      · gi_wp2
        go_end0
        exact ⟨⟨_, rfl⟩, .inr ⟨uptoI (k + 1), ⟨rr, hrq.out.symm⟩, hJx3⟩⟩
    · obtain rfl : k = N := by omega
      have hd : decide ((k : Int) < (k : Int)) = false := decide_eq_false (by omega)
      gi_wp2_with fail
      refine ⟨trivial, ?_⟩
      refine hlen.out.mono ?_
      rintro e w1 ⟨rfl, rfl⟩
      gi_wp2_with fail
      refine ⟨fun _ h => (by cases h), ?_⟩
      gi_wp2_with fail
      go_end0
      exact ⟨⟨_, rfl⟩, .inl ⟨uptoI k, rfl, hJk⟩⟩
theorem placesI_in0 (n : Nat) (hn : 2 ≤ n) (l P : Nat) (J Jx : List Int → World → Prop) (W : World)
    (hP : W.cell? ⟨P, 0, none⟩ = some (.pointer none)) (h0 : J [] W) :
    CallsIn Fence.wide n Try.prog 34 #[.func (.yield l) #[] #[], .pointer (some ⟨P, 0, none⟩)] W fun e W' => (∃ v, e = .returned v) ∧
      ((∃ ys, ys = uptoI 0 ∧ J ys W') ∨ (∃ pre, pre <+: uptoI 0 ∧ Jx pre W')) := by
  have h1n : 1 ≤ n := by omega
  refine callsIn_of_wp Try.func34 rfl trivial ?_ rfl
  simp only [Try.ntmps34, List.size_toArray, List.length_cons, List.length_nil, Nat.reduceAdd, Nat.reduceSub, Array.replicate_succ, Array.replicate_zero, List.push_toArray, List.append_toArray, List.nil_append, List.cons_append]
  gi_wp2
  gi_loopw [3] (fun i wr => i = .int .i64 0 ∧ wr = W) (fun i _ => 0)
  case atStart => exact ⟨rfl, rfl⟩
  case round =>
    obtain ⟨rfl, rfl⟩ := hrel
    have hlen := Lib.hid (callsIn_wide (n := n - 1).2 (lenI_nil wr))
    gi_wp2_with fail
    refine ⟨trivial, ?_⟩
    refine hlen.out.mono ?_
    rintro e w1 ⟨rfl, rfl⟩
    gi_wp2_with fail
    refine ⟨fun _ h => (by cases h), ?_⟩
    gi_wp2_with fail
    go_end0
    exact ⟨⟨_, rfl⟩, .inl ⟨uptoI 0, rfl, h0⟩⟩
theorem placesI_stops (n : Nat) (hn : 2 ≤ n) (r g fr N P : Nat) (C : List Int) (S : Nat → Prop) (w : World)
    (hR : RGI w r g fr N C) (hP : w.cell? ⟨P, 0, none⟩ = some (.pointer (some ⟨r, 0, none⟩))) (hr : ¬ S r) (hg : ¬ S g) (hPs : ¬ S P) :
    SeqStopsK Fence.wide n Try.prog 34 #[.pointer (some ⟨P, 0, none⟩)] (fun x : Int => #[Value.int .i64 x]) (Frm S) (fun ys => ys = uptoI N) (fun pre => pre <+: uptoI N) N w :=
  fun l J Jx W hW hJ _ hY h0 => placesI_in n hn l r g fr N P C S J Jx W hY (hR.below hW) (bkeep hW hP) hr hg hPs h0
theorem placesI_stops0 (n : Nat) (hn : 2 ≤ n) (P : Nat) (S : Nat → Prop) (w : World) (hP : w.cell? ⟨P, 0, none⟩ = some (.pointer none)) :
    SeqStopsK Fence.wide n Try.prog 34 #[.pointer (some ⟨P, 0, none⟩)] (fun x : Int => #[Value.int .i64 x]) (Frm S) (fun ys => ys = uptoI 0) (fun pre => pre <+: uptoI 0) 0 w :=
  fun l J Jx W hW hJ _ hY h0 => placesI_in0 n hn l P J Jx W (bkeep hW hP) h0
theorem frmK_bI {S : Nat → Prop} {w : World} (hS : ∀ k, w.heap.size ≤ k → S k) (W : World) (l : Nat) (o o' : Obj) (hl : w.heap.size ≤ l) (h : W.heap[l]? = some o) (_ : o.isCells = false) (_ : o.isWalk = false) : Frm S W (W.putObj l o') :=
  ⟨rfl, rfl, rfl, by simp, fun k hk hx => World.putObj_heap_other (fun e => hx (by subst e; exact hS _ hl))⟩
theorem placesI_fn (p : Option Addr) (w : World) : Calls Try.prog 28 #[.pointer p] w fun e w' => e = .returned (.func (.func 34) #[] #[.pointer (some ⟨w.heap.size, 0, none⟩)]) ∧ w' = w.alloc (.cells #[.pointer p] 24) := by
  go_enter Try.func28, Try.ntmps28
  go_wp2
  go_ret
  exact ⟨rfl, rfl⟩
theorem allI_fn (p : Option Addr) (w : World) : Calls Try.prog 18 #[.pointer p] w fun e w' => e = .returned (.func (.func 27) #[] #[.pointer (some ⟨w.heap.size, 0, none⟩)]) ∧ w' = w.alloc (.cells #[.pointer p] 24) := by
  go_enter Try.func18, Try.ntmps18
  go_wp2
  go_ret
  exact ⟨rfl, rfl⟩
end Go.Proofs.Ytmjkahbjpkkdgaa
