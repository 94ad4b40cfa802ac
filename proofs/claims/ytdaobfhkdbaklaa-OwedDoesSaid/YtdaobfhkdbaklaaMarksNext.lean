/-
  The next number of a set: a range over a function.
-/
import Derived.Test.YtdaobfhkdbaklaaMarks2
import Derived.RangeFuncNested
import Derived.RangeFuncBound
import Derived.RangeFuncCalls
import Derived.RangeFuncLeaves
import Derived.RangeFuncFrom
import Derived.Shelf.Abstract
import Derived.Shelf.RegionOpen
import Derived.WalkKit
import Derived.OwnWalkIn
import Derived.TacticsInMore
import Derived.LoopNIn
import Derived.LoopIn
namespace Go.Proofs.Ytdaobfhkdbaklaa
open Go.RowKit Go.Shelf
set_option linter.unusedVariables false
set_option linter.unusedSimpArgs false
attribute [local go_sem] Oper.semAt_some

/-- the numbers from a on, below k -/
def selF (bs : List Nat) (a k : Nat) : List Int := ((List.range k).filter fun i => decide (a ≤ i) && bit bs i).map fun (i : Nat) => (i : Int)
theorem selF_start (bs : List Nat) (a : Nat) : selF bs a a = [] := by
  unfold selF
  rw [List.map_eq_nil_iff, List.filter_eq_nil_iff]
  intro i hi
  have := List.mem_range.1 hi
  simp; omega
theorem selF_succ (bs : List Nat) (a k : Nat) (ha : a ≤ k) : selF bs a (k + 1) = if bit bs k then selF bs a k ++ [(k : Int)] else selF bs a k := by
  unfold selF
  rw [List.range_succ, List.filter_append, List.map_append]
  cases h : bit bs k <;> simp [List.filter_cons, h, ha]
theorem selF_prefix (bs : List Nat) (a k d : Nat) (ha : a ≤ k) : ∃ r, selF bs a (k + d) = selF bs a k ++ r := by
  induction d with
  | zero => exact ⟨[], by simp⟩
  | succ d ih =>
    obtain ⟨r, hr⟩ := ih
    rw [← Nat.add_assoc, selF_succ _ _ _ (by omega)]
    split
    · exact ⟨r ++ [((k + d : Nat) : Int)], by rw [hr, List.append_assoc]⟩
    · exact ⟨r, hr⟩
theorem selF_end (bs : List Nat) (a k m : Nat) (hk : m ≤ k) (hz : ∀ i, m ≤ i → bit bs i = false) : selF bs a k = selF bs a m := by
  obtain ⟨d, rfl⟩ : ∃ d, k = m + d := ⟨k - m, by omega⟩
  induction d with
  | zero => rfl
  | succ d ih =>
    rw [← ih (by omega)]
    unfold selF
    rw [← Nat.add_assoc, List.range_succ, List.filter_append, List.map_append]
    simp [List.filter_cons, hz (m + d) (by omega)]
theorem grown_drewN (w : World) (n : Nat) : w.grownBy (w.drewN n) none := ⟨rfl, rfl, rfl, Nat.le_refl _, fun _ _ _ => rfl⟩
theorem grown_below {w w' : World} {n : Nat} (h : w' = w.drewN n) : w.grownBy w' none := by subst h; exact grown_drewN w n
def NextR (J : List Int → World → Prop) (W : World) (n₀ a : Nat) (bs : List Nat) (i : Value) (wr : World) : Prop := ∃ k : Nat, a ≤ k ∧ i = .int .i64 k ∧ J (selF bs a k) wr ∧ Below n₀ W wr
set_option maxRecDepth 100000 in
set_option maxHeartbeats 1600000 in
theorem from1_in (n : Nat) (hn : 2 ≤ n) (l s g many F P n₀ : Nat) (bs : List Nat) (f0 : Int) (J Jx : List Int → World → Prop)
    (W : World) (hJ : AbidesFrom W.heap.size J)
    (hY : ∀ pre x W, J pre W → pre.length < (selF bs (max f0 0).toNat many).length → YieldAt Fence.wide (n - 1) Try.prog l #[.int .i64 x] W fun e W' =>
      (e = .returned (.bool true) ∧ J (pre ++ [x]) W' ∧ Below n₀ W W') ∨ (e = .returned (.bool false) ∧ Jx (pre ++ [x]) W'))
    (hM : MS W s g many bs) (hF : W.cell? ⟨F, 0, none⟩ = some (.int .i64 f0)) (hP : W.cell? ⟨P, 0, none⟩ = some (.pointer (some ⟨s, 0, none⟩))) (hsn : s < n₀) (hgn : g < n₀) (hPn : P < n₀) (hnW : n₀ ≤ W.heap.size) (h0 : J [] W) (hf : -9223372036854775808 ≤ f0 ∧ f0 ≤ 9223372036854775807) :
    CallsIn Fence.wide n Try.prog 37 #[.func (.yield l) #[] #[], .pointer (some ⟨F, 0, none⟩), .pointer (some ⟨P, 0, none⟩)] W fun e W' => (∃ v, e = .returned v) ∧
      ((∃ ys, ys = selF bs (max f0 0).toNat many ∧ J ys W') ∨ (∃ pre, pre <+: selF bs (max f0 0).toNat many ∧ Jx pre W')) := by
  have hmm := hM.hm
  have h1n : 1 ≤ n := by omega
  obtain ⟨a, ha⟩ : ∃ a : Nat, (max f0 0).toNat = a := ⟨_, rfl⟩
  have haf : max f0 0 = (a : Int) := by omega
  have hab : a ≤ 9223372036854775807 := by omega
  rw [ha] at hY ⊢
  refine callsIn_of_wp Try.func37 rfl trivial ?_ rfl
  simp only [Try.ntmps37, List.size_toArray, List.length_cons, List.length_nil, Nat.reduceAdd, Nat.reduceSub, Array.replicate_succ, Array.replicate_zero, List.push_toArray, List.append_toArray, List.nil_append, List.cons_append]
  rcases Int.lt_or_le f0 0 with hneg | hpos
  · obtain rfl : a = 0 := by omega
    gi_wp2
    gi_loopw [4] (fun i wr => NextR J W n₀ 0 bs i wr) (fun i _ => many - (intOf i).toNat)
    case atStart => exact ⟨0, Nat.le_refl _, rfl, by rw [selF_start]; exact h0, Below.refl _ _⟩
    case round =>
      obtain ⟨k, hk, rfl, hJk, hbW⟩ := hrel
      have hM1 : MS wr s g many bs := ⟨(hbW.cell (p := ⟨s, 0, none⟩) hsn).trans hM.c0, (hbW.cell (p := ⟨s, 1, none⟩) hsn).trans hM.c1, fun j hj => (hbW.cell (p := ⟨g, j, none⟩) hgn).trans (hM.b j hj), fun j hj => (hbW.frozen (p := ⟨g, j, none⟩) hgn).trans (hM.f j hj), hM.ne, hM.hn, hM.hm, hM.hb, hM.hz, Nat.lt_of_lt_of_le hM.hg hbW.size⟩
      have hcp : wr.cell? ⟨P, 0, none⟩ = some (.pointer (some ⟨s, 0, none⟩)) := (hbW.cell (p := ⟨P, 0, none⟩) hPn).trans hP
      by_cases hlt : k < many
      · have hmay := may_any s g many bs k wr hM1
        rw [decide_eq_true (show 0 ≤ (k : Int) by omega), decide_eq_true (show (k : Int) < many by omega)] at hmay
        have hhas := has_in s g many bs k wr hM1 hlt
        have hmay := Lib.hid (callsIn_wide (n := n - 1).2 hmay)
        have hss := selF_succ bs 0 k hk
        cases hb : bit bs k with
        | false =>
          rw [hb] at hhas hss
          have hhas := Lib.hid (callsIn_wide (n := n - 1).2 hhas)
          have hsq : Hid (selF bs 0 (k + 1) = selF bs 0 k) := by show _ = _; rw [hss]; rfl
          clear hss
          clear hb
          gi_wp2_with fail
          refine ⟨trivial, ?_⟩
          refine hmay.out.mono ?_
          rintro e w1 ⟨rfl, rfl⟩
          gi_wp2_with fail
          refine ⟨trivial, ?_⟩
          refine hhas.out.mono ?_
          rintro e w1 ⟨rfl, n1, rfl⟩
          gi_wp2_with fail
          refine ⟨fun _ h => (by cases h), ?_⟩
          gi_wp2_with fail
          exact ⟨⟨k + 1, by omega, by go_num, by rw [hsq.out]; exact hJ _ _ _ none hJk (grown_drewN _ _) (fun r e => by cases e), bdraws hbW _⟩, by simp [intOf]; omega⟩
        | true =>
          rw [hb] at hhas hss
          have hhas := Lib.hid (callsIn_wide (n := n - 1).2 hhas)
          have hsq : Hid (selF bs 0 (k + 1) = selF bs 0 k ++ [(k : Int)]) := by show _ = _; rw [hss]; rfl
          clear hss
          obtain ⟨rr, hrr⟩ := selF_prefix bs 0 (k + 1) (many - (k + 1)) (by omega)
          rw [show k + 1 + (many - (k + 1)) = many by omega, hsq.out] at hrr
          have hlen : (selF bs 0 k).length < (selF bs 0 many).length := by rw [hrr]; simp
          have hyy := fun m => hY (selF bs 0 k) k (wr.drewN m) (hJ _ _ _ none hJk (grown_drewN _ _) (fun r e => by cases e)) hlen
          have hrq := Lib.hid hrr
          clear hb hrr
          gi_wp2_with fail
          refine ⟨trivial, ?_⟩
          refine hmay.out.mono ?_
          rintro e w1 ⟨rfl, rfl⟩
          gi_wp2_with fail
          refine ⟨trivial, ?_⟩
          refine hhas.out.mono ?_
          rintro e w1 ⟨rfl, n1, rfl⟩
          obtain ⟨fn, tm, asg, bdy, hy, hRd⟩ := hyy n1
          gi_wp2_with fail
          refine hRd.mono ?_
          rintro e W3 (⟨rfl, hJ3, hk3⟩ | ⟨rfl, hJx3⟩)
          · gi_wp2
            exact ⟨⟨k + 1, by omega, by go_num, by rw [hsq.out]; exact hJ3, (bdraws hbW _).trans hk3⟩, by simp [intOf]; omega⟩
          · gi_wp2
            refine bodyPost_ret (results_none rfl _ _ _) rfl ?_
            exact ⟨⟨_, rfl⟩, .inr ⟨selF bs 0 k ++ [(k : Int)], ⟨rr, hrq.out.symm⟩, hJx3⟩⟩
      · have hmay := may_any s g many bs k wr hM1
        rw [decide_eq_false (show ¬ (k : Int) < many by omega), Bool.and_false] at hmay
        have hmay := Lib.hid (callsIn_wide (n := n - 1).2 hmay)
        have hse := Lib.hid (selF_end bs 0 k many (by omega) hM.hz)
        gi_wp2_with fail
        refine ⟨trivial, ?_⟩
        refine hmay.out.mono ?_
        rintro e w1 ⟨rfl, rfl⟩
        gi_wp2_with fail
        go_end0
        exact ⟨⟨_, rfl⟩, .inl ⟨selF bs 0 k, hse.out, hJk⟩⟩
  · obtain rfl : f0 = (a : Int) := by omega
    clear haf ha
    gi_wp2
    gi_loopw [4] (fun i wr => NextR J W n₀ a bs i wr) (fun i _ => many - (intOf i).toNat)
    case atStart => exact ⟨a, Nat.le_refl _, rfl, by rw [selF_start]; exact h0, Below.refl _ _⟩
    case round =>
      obtain ⟨k, hk, rfl, hJk, hbW⟩ := hrel
      have hM1 : MS wr s g many bs := ⟨(hbW.cell (p := ⟨s, 0, none⟩) hsn).trans hM.c0, (hbW.cell (p := ⟨s, 1, none⟩) hsn).trans hM.c1, fun j hj => (hbW.cell (p := ⟨g, j, none⟩) hgn).trans (hM.b j hj), fun j hj => (hbW.frozen (p := ⟨g, j, none⟩) hgn).trans (hM.f j hj), hM.ne, hM.hn, hM.hm, hM.hb, hM.hz, Nat.lt_of_lt_of_le hM.hg hbW.size⟩
      have hcp : wr.cell? ⟨P, 0, none⟩ = some (.pointer (some ⟨s, 0, none⟩)) := (hbW.cell (p := ⟨P, 0, none⟩) hPn).trans hP
      by_cases hlt : k < many
      · have hmay := may_any s g many bs k wr hM1
        rw [decide_eq_true (show 0 ≤ (k : Int) by omega), decide_eq_true (show (k : Int) < many by omega)] at hmay
        have hhas := has_in s g many bs k wr hM1 hlt
        have hmay := Lib.hid (callsIn_wide (n := n - 1).2 hmay)
        have hss := selF_succ bs a k hk
        cases hb : bit bs k with
        | false =>
          rw [hb] at hhas hss
          have hhas := Lib.hid (callsIn_wide (n := n - 1).2 hhas)
          have hsq : Hid (selF bs a (k + 1) = selF bs a k) := by show _ = _; rw [hss]; rfl
          clear hss
          clear hb
          gi_wp2_with fail
          refine ⟨trivial, ?_⟩
          refine hmay.out.mono ?_
          rintro e w1 ⟨rfl, rfl⟩
          gi_wp2_with fail
          refine ⟨trivial, ?_⟩
          refine hhas.out.mono ?_
          rintro e w1 ⟨rfl, n1, rfl⟩
          gi_wp2_with fail
          refine ⟨fun _ h => (by cases h), ?_⟩
          gi_wp2_with fail
          exact ⟨⟨k + 1, by omega, by go_num, by rw [hsq.out]; exact hJ _ _ _ none hJk (grown_drewN _ _) (fun r e => by cases e), bdraws hbW _⟩, by simp [intOf]; omega⟩
        | true =>
          rw [hb] at hhas hss
          have hhas := Lib.hid (callsIn_wide (n := n - 1).2 hhas)
          have hsq : Hid (selF bs a (k + 1) = selF bs a k ++ [(k : Int)]) := by show _ = _; rw [hss]; rfl
          clear hss
          obtain ⟨rr, hrr⟩ := selF_prefix bs a (k + 1) (many - (k + 1)) (by omega)
          rw [show k + 1 + (many - (k + 1)) = many by omega, hsq.out] at hrr
          have hlen : (selF bs a k).length < (selF bs a many).length := by rw [hrr]; simp
          have hyy := fun m => hY (selF bs a k) k (wr.drewN m) (hJ _ _ _ none hJk (grown_drewN _ _) (fun r e => by cases e)) hlen
          have hrq := Lib.hid hrr
          clear hb hrr
          gi_wp2_with fail
          refine ⟨trivial, ?_⟩
          refine hmay.out.mono ?_
          rintro e w1 ⟨rfl, rfl⟩
          gi_wp2_with fail
          refine ⟨trivial, ?_⟩
          refine hhas.out.mono ?_
          rintro e w1 ⟨rfl, n1, rfl⟩
          obtain ⟨fn, tm, asg, bdy, hy, hRd⟩ := hyy n1
          gi_wp2_with fail
          refine hRd.mono ?_
          rintro e W3 (⟨rfl, hJ3, hk3⟩ | ⟨rfl, hJx3⟩)
          · gi_wp2
            exact ⟨⟨k + 1, by omega, by go_num, by rw [hsq.out]; exact hJ3, (bdraws hbW _).trans hk3⟩, by simp [intOf]; omega⟩
          · gi_wp2
            refine bodyPost_ret (results_none rfl _ _ _) rfl ?_
            exact ⟨⟨_, rfl⟩, .inr ⟨selF bs a k ++ [(k : Int)], ⟨rr, hrq.out.symm⟩, hJx3⟩⟩
      · have hmay := may_any s g many bs k wr hM1
        rw [decide_eq_false (show ¬ (k : Int) < many by omega), Bool.and_false] at hmay
        have hmay := Lib.hid (callsIn_wide (n := n - 1).2 hmay)
        have hse := Lib.hid (selF_end bs a k many (by omega) hM.hz)
        gi_wp2_with fail
        refine ⟨trivial, ?_⟩
        refine hmay.out.mono ?_
        rintro e w1 ⟨rfl, rfl⟩
        gi_wp2_with fail
        go_end0
        exact ⟨⟨_, rfl⟩, .inl ⟨selF bs a k, hse.out, hJk⟩⟩
end Go.Proofs.Ytdaobfhkdbaklaa
