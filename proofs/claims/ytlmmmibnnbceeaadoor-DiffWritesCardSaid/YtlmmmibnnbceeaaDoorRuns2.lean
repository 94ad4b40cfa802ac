/-
  Runs of places (chapter 41): the teller.
-/
import Derived.Test.YtlmmmibnnbceeaaDoorRows
import Derived.Test.YtlmmmibnnbceeaaDoorRuns
import Derived.WalkKit
import Derived.ProofKit
import Derived.RangeFuncNested
import Derived.RangeFuncBound
import Derived.RangeFuncCalls
import Derived.RangeFuncLeaves
import Derived.RangeFuncFrom
import Derived.Shelf.Abstract
import Derived.Shelf.RegionOpen
import Derived.OwnWalkIn
import Derived.TacticsInMore
import Derived.LoopNIn
import Derived.LoopIn
namespace Go.Proofs.YtlmmmibnnbceeaaDoor
open Go.RowKit Go.Shelf
set_option linter.unusedVariables false
set_option linter.unusedSimpArgs false
attribute [local go_sem] Oper.semAt_some

theorem grown_of {W W' : World} (h : Below W.heap.size W W') : W.grownBy W' none := ⟨h.os, h.tape, h.output, h.size, fun k hk _ => h.block k hk⟩
/-- what holds at the head of the teller's loop -/
structure RH (p : Nat → Bool) (n : Nat) (S : Nat → Prop) (E : World → Prop) (J : List (SpN n) → World → Prop) (W : World) (k : Nat) (wr : World) : Prop where
  kn : k ≤ n + 1
  pk : k = 0 ∨ n < k ∨ p (k - 1) = false
  j : ∃ pre, pre.map Subtype.val = rs p (min k n) ∧ J pre wr
  fr : Frm S W wr
  e : E wr
/-- what holds within a run -/
structure RI (p : Nat → Bool) (n : Nat) (S : Nat → Prop) (E : World → Prop) (J : List (SpN n) → World → Prop) (W : World) (k : Nat) (pre : List (SpN n)) (j : Nat) (wr : World) : Prop where
  kj : k < j ∨ k = j
  jn : j ≤ n
  al : ∀ x, k ≤ x → x < j → p x = true
  jj : J pre wr
  fr : Frm S W wr
  e : E wr
def RP (n : Nat) (p : Nat → Bool) (J Jx : List (SpN n) → World → Prop) (e : Ending) (W' : World) : Prop := (∃ v, e = .returned v) ∧ ((∃ xs : List (SpN n), xs.map Subtype.val = rs p n ∧ J xs W') ∨ (∃ pre, True ∧ Jx pre W'))
set_option maxRecDepth 100000 in
set_option maxHeartbeats 3200000 in
theorem runsS_in (m : Nat) (hm : 2 ≤ m) (l n c1 c2 : Nat) (hn : n ≤ 1000000) (t1 t2 t3 : ByteArray) (q1 q2 q3 : Nat) (p : Nat → Bool) (S : Nat → Prop) (E : World → Prop) (J Jx : List (SpN n) → World → Prop) (W : World)
    (hY : ∀ pre (x : SpN n) W, J pre W → pre.length < n + 1 → YieldAt Fence.wide (m - 1) Tryd.prog l #[spV x.1] W fun e W' =>
      (e = .returned (.bool true) ∧ J (pre ++ [x]) W' ∧ Frm S W W') ∨ (e = .returned (.bool false) ∧ Jx (pre ++ [x]) W'))
    (hJ : AbidesFrom W.heap.size J) (hc1 : W.cell? ⟨c1, 0, none⟩ = some (.int .i64 n)) (hc2 : W.cell? ⟨c2, 0, none⟩ = some (.func (.func 28) #[] #[.pointer (some ⟨q1, 0, none⟩), .pointer (some ⟨q2, 0, none⟩), .pointer (some ⟨q3, 0, none⟩)])) (h1 : ¬ S c1) (h2 : ¬ S c2)
    (hE : ∀ A B, E A → Frm S A B → E B) (hE0 : E W)
    (hc : ∀ W' (i : Nat), E W' → i < n → Calls Tryd.prog 28 ((#[] ++ #[.int .i64 i]) ++ #[.pointer (some ⟨q1, 0, none⟩), .pointer (some ⟨q2, 0, none⟩), .pointer (some ⟨q3, 0, none⟩)]) W' fun e W'' => e = .returned (.bool (p i)) ∧ Below W'.heap.size W' W'')
    (h0 : J [] W) :
    CallsIn Fence.wide m Tryd.prog 37 #[.func (.yield l) #[] #[], .pointer (some ⟨c1, 0, none⟩), .pointer (some ⟨c2, 0, none⟩)] W (RP n p J Jx) := by
  have h1n : 1 ≤ m := by omega
  have hstart : RH p n S E J W 0 W := ⟨by omega, .inl rfl, ⟨[], by rw [Nat.zero_min]; rfl, h0⟩, Frm.refl _ _, hE0⟩
  refine callsIn_of_wp Tryd.func37 rfl trivial ?_ rfl
  simp only [Tryd.ntmps37, List.size_toArray, List.length_cons, List.length_nil, Nat.reduceAdd, Nat.reduceSub, Array.replicate_succ, Array.replicate_zero, List.push_toArray, List.append_toArray, List.nil_append, List.cons_append]
  have hbel : ∀ pre A B, J pre A → Below A.heap.size A B → J pre B := fun pre A B h hb => hJ pre A B none h (grown_of hb) (fun r e => by cases e)
  have hcI : ∀ W' (i : Nat), E W' → i < n → CallsIn Fence.wide (m - 1) Tryd.prog 28 ((#[] ++ #[.int .i64 i]) ++ #[.pointer (some ⟨q1, 0, none⟩), .pointer (some ⟨q2, 0, none⟩), .pointer (some ⟨q3, 0, none⟩)]) W' fun e W'' => e = .returned (.bool (p i)) ∧ Below W'.heap.size W' W'' := fun W' i h hi => callsIn_wide.2 (hc W' i h hi)
  simp only [List.append_toArray, List.nil_append, List.cons_append] at hcI
  have hcI := Lib.hid hcI
  have hcx1 : ∀ A, Frm S W A → A.cell? ⟨c1, 0, none⟩ = some (.int .i64 n) ∧ A.cell? ⟨c2, 0, none⟩ = some (.func (.func 28) #[] #[.pointer (some ⟨q1, 0, none⟩), .pointer (some ⟨q2, 0, none⟩), .pointer (some ⟨q3, 0, none⟩)]) := fun A h => ⟨h.cell (p := ⟨c1, 0, none⟩) h1 hc1, h.cell (p := ⟨c2, 0, none⟩) h2 hc2⟩
  have hcx := Lib.hid hcx1
  clear hcx1 hc h0 hE0
  gi_wp2
  gi_loopw [4] (fun i wr => ∃ k : Nat, i = .int .i64 k ∧ Hid (RH p n S E J W k wr)) (fun i _ => n + 2 - (intOf i).toNat)
  case atStart => exact ⟨0, rfl, hstart⟩
  case round =>
    obtain ⟨k, rfl, hH⟩ := hrel
    clear hstart hc1 hc2
    obtain ⟨z1, z2⟩ := hcx.out wr hH.out.fr
    have hkn := hH.out.kn
    by_cases hlt : k < n
    · have hd : decide ((k : Int) < (n : Int)) = true := decide_eq_true (by omega)
      obtain ⟨pre, hpre, hJp⟩ := hH.out.j
      rw [Nat.min_eq_left (by omega)] at hpre
      have hfW := hH.out.fr
      have hEw := hH.out.e
      have hpk := hH.out.pk
      cases hp : p k with
      | false =>
        have hnx : ∀ w1, Below wr.heap.size wr w1 → RH p n S E J W (k + 1) w1 := fun w1 hb => ⟨by omega, .inr (.inr (by rw [show k + 1 - 1 = k by omega]; exact hp)), ⟨pre, by rw [Nat.min_eq_left (by omega), rs_no hp]; exact hpre, hbel _ _ _ hJp hb⟩, hfW.trans (.ofBelow hb), hE _ _ hEw (.ofBelow hb)⟩
        have hnx := Lib.hid hnx
        have hcc := hcI.out wr k hEw hlt
        rw [hp] at hcc
        have hcc := Lib.hid hcc
        clear hpre hJp hp hpk
        gi_wp2_with fail
        refine ⟨trivial, ?_⟩
        refine hcc.out.mono ?_
        rintro e w1 ⟨rfl, hb⟩
        gi_wp2
        exact ⟨⟨k + 1, by go_num, hnx.out _ hb⟩, by simp [intOf]; omega⟩
      | true =>
        have hlen : pre.length ≤ n := by
          have := congrArg List.length hpre
          rw [List.length_map] at this
          have := rs_len p k
          omega
        have hin0 : ∀ w1, Below wr.heap.size wr w1 → RI p n S E J W k pre k w1 := fun w1 hb => ⟨.inr rfl, by omega, fun x h1 h2 => by omega, hbel _ _ _ hJp hb, hfW.trans (.ofBelow hb), hE _ _ hEw (.ofBelow hb)⟩
        have hin0 := Lib.hid hin0
        have hcc := hcI.out wr k hEw hlt
        rw [hp] at hcc
        have hcc := Lib.hid hcc
        have hpre := Lib.hid hpre
        have hpk' : k = 0 ∨ p (k - 1) = false := by
          rcases hpk with h | h | h
          · exact .inl h
          · omega
          · exact .inr h
        have hpk := Lib.hid hpk'
        have hpx := Lib.hid hp
        clear hJp hp hpk'
        gi_wp2_with fail
        refine ⟨trivial, ?_⟩
        refine hcc.out.mono ?_
        rintro e w1 ⟨rfl, hb⟩
        gi_wp2_with fail
        have hi1 := hin0.out _ hb
        gi_loopw [4] (fun i wr => ∃ j : Nat, i = .int .i64 j ∧ Hid (RI p n S E J W k pre j wr)) (fun i _ => n + 1 - (intOf i).toNat)
        case atStart => exact ⟨k, rfl, hi1⟩
        case round =>
          obtain ⟨j, rfl, hI⟩ := hrel
          clear hi1
          obtain ⟨y1, y2⟩ := hcx.out _ hI.out.fr
          have hjn := hI.out.jn
          have hkj0 : k ≤ j := by have := hI.out.kj; omega
          have hyy : ∀ w1, Below wr.heap.size wr w1 → ∀ (hkj : k < j), YieldAt Fence.wide (m - 1) Tryd.prog l #[.agg #[.int .i64 k, .int .i64 j]] w1 fun e W' =>
              (e = .returned (.bool true) ∧ J (pre ++ [⟨(k, j), by simp; omega, hjn⟩]) W' ∧ Frm S w1 W') ∨ (e = .returned (.bool false) ∧ Jx (pre ++ [⟨(k, j), by simp; omega, hjn⟩]) W') := fun w1 hb hkj =>
            hY pre ⟨(k, j), by simp; omega, hjn⟩ w1 (hbel _ _ _ hI.out.jj hb) (by omega)
          have hyy := Lib.hid hyy
          have hfin : ∀ w1 w2 (h : k < j), Below wr.heap.size wr w1 → k < j → (j = n ∨ p j = false) → J (pre ++ [⟨(k, j), by simp; omega, hjn⟩]) w2 → Frm S w1 w2 → RH p n S E J W (j + 1) w2 := fun w1 w2 h hb hkj hend hJ2 hf2 => by
            obtain ⟨d, rfl⟩ : ∃ d, j = k + d + 1 := ⟨j - k - 1, by omega⟩
            have hr := rs_run p k hpk.out d hI.out.al
            refine ⟨by omega, ?_, ⟨_, ?_, hJ2⟩, (hI.out.fr.trans (.ofBelow hb)).trans hf2, hE _ _ (hE _ _ hI.out.e (.ofBelow hb)) hf2⟩
            · rcases hend with h | h
              · exact .inr (.inl (by omega))
              · exact .inr (.inr (by rw [show k + d + 1 + 1 - 1 = k + d + 1 by omega]; exact h))
            · rw [List.map_append, hpre.out, List.map_cons, List.map_nil, ← hr]
              rcases hend with h | h
              · rw [Nat.min_eq_right (by omega), h]
              · by_cases hjj : k + d + 1 + 1 ≤ n
                · rw [Nat.min_eq_left hjj, rs_no h]
                · rw [Nat.min_eq_right (by omega), show n = k + d + 1 by omega]
          have hfin := Lib.hid hfin
          by_cases hjlt : j < n
          · have hd2 : decide ((j : Int) < (n : Int)) = true := decide_eq_true (by omega)
            have hcj := hcI.out wr j hI.out.e hjlt
            cases hpj : p j with
            | true =>
              have hnx : ∀ w1, Below wr.heap.size wr w1 → RI p n S E J W k pre (j + 1) w1 := fun w1 hb => ⟨.inl (by have := hI.out.kj; omega), by omega, fun x h1 h2 => by
                by_cases e : x = j
                · rw [e]; exact hpj
                · exact hI.out.al x h1 (by omega), hbel _ _ _ hI.out.jj hb, hI.out.fr.trans (.ofBelow hb), hE _ _ hI.out.e (.ofBelow hb)⟩
              have hnx := Lib.hid hnx
              rw [hpj] at hcj
              have hcj := Lib.hid hcj
              clear hpj
              gi_wp2_with fail
              refine ⟨trivial, ?_⟩
              refine hcj.out.mono ?_
              rintro e w2 ⟨rfl, hb2⟩
              gi_wp2
              exact ⟨⟨j + 1, by go_num, hnx.out _ hb2⟩, by simp [intOf]; omega⟩
            | false =>
              have hkj : k < j := by
                rcases hI.out.kj with h | h
                · exact h
                · rw [← h, hpx.out] at hpj; cases hpj
              rw [hpj] at hcj
              have hcj := Lib.hid hcj
              have hpj := Lib.hid hpj
              gi_wp2_with fail
              refine ⟨trivial, ?_⟩
              refine hcj.out.mono ?_
              rintro e w2 ⟨rfl, hb2⟩
              obtain ⟨fn, tm, asg, bdy, hy, hRd⟩ := hyy.out w2 hb2 hkj
              gi_wp2_with fail
              refine hRd.mono ?_
              rintro e W3 (⟨rfl, hJ3, hk3⟩ | ⟨rfl, hJx3⟩)
              · gi_wp2
                exact ⟨⟨j + 1, by go_num, hfin.out w2 _ (by omega) hb2 hkj (.inr hpj.out) hJ3 hk3⟩, by simp [intOf]; omega⟩
              · gi_wp2
                go_end0
                exact ⟨⟨_, rfl⟩, .inr ⟨_, trivial, hJx3⟩⟩
          · have hjn2 : j = n := by omega
            subst hjn2
            have hd2 : decide ((j : Int) < (j : Int)) = false := decide_eq_false (by omega)
            have hkj : k < j := by omega
            obtain ⟨fn, tm, asg, bdy, hy, hRd⟩ := hyy.out wr (Below.refl _ _) hkj
            gi_wp2_with fail
            refine ⟨fun _ h => (by cases h), ?_⟩
            gi_wp2_with fail
            refine hRd.mono ?_
            rintro e W3 (⟨rfl, hJ3, hk3⟩ | ⟨rfl, hJx3⟩)
            · gi_wp2
              exact ⟨⟨j + 1, by go_num, hfin.out wr _ (by omega) (Below.refl _ _) hkj (.inl (by trivial)) hJ3 hk3⟩, by simp [intOf]; omega⟩
            · gi_wp2
              go_end0
              exact ⟨⟨_, rfl⟩, .inr ⟨_, trivial, hJx3⟩⟩
    · have hd : decide ((k : Int) < (n : Int)) = false := decide_eq_false (by omega)
      obtain ⟨pre, hpre, hJp⟩ := hH.out.j
      rw [Nat.min_eq_right (by omega)] at hpre
      have hpre := Lib.hid hpre
      gi_wp2
      go_end0
      exact ⟨⟨_, rfl⟩, .inl ⟨pre, hpre.out, hJp⟩⟩
set_option maxRecDepth 100000 in
set_option maxHeartbeats 3200000 in
theorem runsT_in (m : Nat) (hm : 2 ≤ m) (l n c1 c2 : Nat) (hn : n ≤ 1000000) (t1 t2 t3 : ByteArray) (q1 q2 q3 : Nat) (p : Nat → Bool) (S : Nat → Prop) (E : World → Prop) (J Jx : List (SpN n) → World → Prop) (W : World)
    (hY : ∀ pre (x : SpN n) W, J pre W → pre.length < n + 1 → YieldAt Fence.wide (m - 1) Tryd.prog l #[spV x.1] W fun e W' =>
      (e = .returned (.bool true) ∧ J (pre ++ [x]) W' ∧ Frm S W W') ∨ (e = .returned (.bool false) ∧ Jx (pre ++ [x]) W'))
    (hJ : AbidesFrom W.heap.size J) (hc1 : W.cell? ⟨c1, 0, none⟩ = some (.int .i64 n)) (hc2 : W.cell? ⟨c2, 0, none⟩ = some (.func (.func 25) #[.agg #[.string t1, .string t2, .string t3]] #[])) (h1 : ¬ S c1) (h2 : ¬ S c2)
    (hE : ∀ A B, E A → Frm S A B → E B) (hE0 : E W)
    (hc : ∀ W' (i : Nat), E W' → i < n → Calls Tryd.prog 25 ((#[.agg #[.string t1, .string t2, .string t3]] ++ #[.int .i64 i]) ++ #[]) W' fun e W'' => e = .returned (.bool (p i)) ∧ Below W'.heap.size W' W'')
    (h0 : J [] W) :
    CallsIn Fence.wide m Tryd.prog 37 #[.func (.yield l) #[] #[], .pointer (some ⟨c1, 0, none⟩), .pointer (some ⟨c2, 0, none⟩)] W (RP n p J Jx) := by
  have h1n : 1 ≤ m := by omega
  have hstart : RH p n S E J W 0 W := ⟨by omega, .inl rfl, ⟨[], by rw [Nat.zero_min]; rfl, h0⟩, Frm.refl _ _, hE0⟩
  refine callsIn_of_wp Tryd.func37 rfl trivial ?_ rfl
  simp only [Tryd.ntmps37, List.size_toArray, List.length_cons, List.length_nil, Nat.reduceAdd, Nat.reduceSub, Array.replicate_succ, Array.replicate_zero, List.push_toArray, List.append_toArray, List.nil_append, List.cons_append]
  have hbel : ∀ pre A B, J pre A → Below A.heap.size A B → J pre B := fun pre A B h hb => hJ pre A B none h (grown_of hb) (fun r e => by cases e)
  have hcI : ∀ W' (i : Nat), E W' → i < n → CallsIn Fence.wide (m - 1) Tryd.prog 25 ((#[.agg #[.string t1, .string t2, .string t3]] ++ #[.int .i64 i]) ++ #[]) W' fun e W'' => e = .returned (.bool (p i)) ∧ Below W'.heap.size W' W'' := fun W' i h hi => callsIn_wide.2 (hc W' i h hi)
  simp only [List.append_toArray, List.nil_append, List.cons_append] at hcI
  have hcI := Lib.hid hcI
  have hcx1 : ∀ A, Frm S W A → A.cell? ⟨c1, 0, none⟩ = some (.int .i64 n) ∧ A.cell? ⟨c2, 0, none⟩ = some (.func (.func 25) #[.agg #[.string t1, .string t2, .string t3]] #[]) := fun A h => ⟨h.cell (p := ⟨c1, 0, none⟩) h1 hc1, h.cell (p := ⟨c2, 0, none⟩) h2 hc2⟩
  have hcx := Lib.hid hcx1
  clear hcx1 hc h0 hE0
  gi_wp2
  gi_loopw [4] (fun i wr => ∃ k : Nat, i = .int .i64 k ∧ Hid (RH p n S E J W k wr)) (fun i _ => n + 2 - (intOf i).toNat)
  case atStart => exact ⟨0, rfl, hstart⟩
  case round =>
    obtain ⟨k, rfl, hH⟩ := hrel
    clear hstart hc1 hc2
    obtain ⟨z1, z2⟩ := hcx.out wr hH.out.fr
    have hkn := hH.out.kn
    by_cases hlt : k < n
    · have hd : decide ((k : Int) < (n : Int)) = true := decide_eq_true (by omega)
      obtain ⟨pre, hpre, hJp⟩ := hH.out.j
      rw [Nat.min_eq_left (by omega)] at hpre
      have hfW := hH.out.fr
      have hEw := hH.out.e
      have hpk := hH.out.pk
      cases hp : p k with
      | false =>
        have hnx : ∀ w1, Below wr.heap.size wr w1 → RH p n S E J W (k + 1) w1 := fun w1 hb => ⟨by omega, .inr (.inr (by rw [show k + 1 - 1 = k by omega]; exact hp)), ⟨pre, by rw [Nat.min_eq_left (by omega), rs_no hp]; exact hpre, hbel _ _ _ hJp hb⟩, hfW.trans (.ofBelow hb), hE _ _ hEw (.ofBelow hb)⟩
        have hnx := Lib.hid hnx
        have hcc := hcI.out wr k hEw hlt
        rw [hp] at hcc
        have hcc := Lib.hid hcc
        clear hpre hJp hp hpk
        gi_wp2_with fail
        refine ⟨trivial, ?_⟩
        refine hcc.out.mono ?_
        rintro e w1 ⟨rfl, hb⟩
        gi_wp2
        exact ⟨⟨k + 1, by go_num, hnx.out _ hb⟩, by simp [intOf]; omega⟩
      | true =>
        have hlen : pre.length ≤ n := by
          have := congrArg List.length hpre
          rw [List.length_map] at this
          have := rs_len p k
          omega
        have hin0 : ∀ w1, Below wr.heap.size wr w1 → RI p n S E J W k pre k w1 := fun w1 hb => ⟨.inr rfl, by omega, fun x h1 h2 => by omega, hbel _ _ _ hJp hb, hfW.trans (.ofBelow hb), hE _ _ hEw (.ofBelow hb)⟩
        have hin0 := Lib.hid hin0
        have hcc := hcI.out wr k hEw hlt
        rw [hp] at hcc
        have hcc := Lib.hid hcc
        have hpre := Lib.hid hpre
        have hpk' : k = 0 ∨ p (k - 1) = false := by
          rcases hpk with h | h | h
          · exact .inl h
          · omega
          · exact .inr h
        have hpk := Lib.hid hpk'
        have hpx := Lib.hid hp
        clear hJp hp hpk'
        gi_wp2_with fail
        refine ⟨trivial, ?_⟩
        refine hcc.out.mono ?_
        rintro e w1 ⟨rfl, hb⟩
        gi_wp2_with fail
        have hi1 := hin0.out _ hb
        gi_loopw [4] (fun i wr => ∃ j : Nat, i = .int .i64 j ∧ Hid (RI p n S E J W k pre j wr)) (fun i _ => n + 1 - (intOf i).toNat)
        case atStart => exact ⟨k, rfl, hi1⟩
        case round =>
          obtain ⟨j, rfl, hI⟩ := hrel
          clear hi1
          obtain ⟨y1, y2⟩ := hcx.out _ hI.out.fr
          have hjn := hI.out.jn
          have hkj0 : k ≤ j := by have := hI.out.kj; omega
          have hyy : ∀ w1, Below wr.heap.size wr w1 → ∀ (hkj : k < j), YieldAt Fence.wide (m - 1) Tryd.prog l #[.agg #[.int .i64 k, .int .i64 j]] w1 fun e W' =>
              (e = .returned (.bool true) ∧ J (pre ++ [⟨(k, j), by simp; omega, hjn⟩]) W' ∧ Frm S w1 W') ∨ (e = .returned (.bool false) ∧ Jx (pre ++ [⟨(k, j), by simp; omega, hjn⟩]) W') := fun w1 hb hkj =>
            hY pre ⟨(k, j), by simp; omega, hjn⟩ w1 (hbel _ _ _ hI.out.jj hb) (by omega)
          have hyy := Lib.hid hyy
          have hfin : ∀ w1 w2 (h : k < j), Below wr.heap.size wr w1 → k < j → (j = n ∨ p j = false) → J (pre ++ [⟨(k, j), by simp; omega, hjn⟩]) w2 → Frm S w1 w2 → RH p n S E J W (j + 1) w2 := fun w1 w2 h hb hkj hend hJ2 hf2 => by
            obtain ⟨d, rfl⟩ : ∃ d, j = k + d + 1 := ⟨j - k - 1, by omega⟩
            have hr := rs_run p k hpk.out d hI.out.al
            refine ⟨by omega, ?_, ⟨_, ?_, hJ2⟩, (hI.out.fr.trans (.ofBelow hb)).trans hf2, hE _ _ (hE _ _ hI.out.e (.ofBelow hb)) hf2⟩
            · rcases hend with h | h
              · exact .inr (.inl (by omega))
              · exact .inr (.inr (by rw [show k + d + 1 + 1 - 1 = k + d + 1 by omega]; exact h))
            · rw [List.map_append, hpre.out, List.map_cons, List.map_nil, ← hr]
              rcases hend with h | h
              · rw [Nat.min_eq_right (by omega), h]
              · by_cases hjj : k + d + 1 + 1 ≤ n
                · rw [Nat.min_eq_left hjj, rs_no h]
                · rw [Nat.min_eq_right (by omega), show n = k + d + 1 by omega]
          have hfin := Lib.hid hfin
          by_cases hjlt : j < n
          · have hd2 : decide ((j : Int) < (n : Int)) = true := decide_eq_true (by omega)
            have hcj := hcI.out wr j hI.out.e hjlt
            cases hpj : p j with
            | true =>
              have hnx : ∀ w1, Below wr.heap.size wr w1 → RI p n S E J W k pre (j + 1) w1 := fun w1 hb => ⟨.inl (by have := hI.out.kj; omega), by omega, fun x h1 h2 => by
                by_cases e : x = j
                · rw [e]; exact hpj
                · exact hI.out.al x h1 (by omega), hbel _ _ _ hI.out.jj hb, hI.out.fr.trans (.ofBelow hb), hE _ _ hI.out.e (.ofBelow hb)⟩
              have hnx := Lib.hid hnx
              rw [hpj] at hcj
              have hcj := Lib.hid hcj
              clear hpj
              gi_wp2_with fail
              refine ⟨trivial, ?_⟩
              refine hcj.out.mono ?_
              rintro e w2 ⟨rfl, hb2⟩
              gi_wp2
              exact ⟨⟨j + 1, by go_num, hnx.out _ hb2⟩, by simp [intOf]; omega⟩
            | false =>
              have hkj : k < j := by
                rcases hI.out.kj with h | h
                · exact h
                · rw [← h, hpx.out] at hpj; cases hpj
              rw [hpj] at hcj
              have hcj := Lib.hid hcj
              have hpj := Lib.hid hpj
              gi_wp2_with fail
              refine ⟨trivial, ?_⟩
              refine hcj.out.mono ?_
              rintro e w2 ⟨rfl, hb2⟩
              obtain ⟨fn, tm, asg, bdy, hy, hRd⟩ := hyy.out w2 hb2 hkj
              gi_wp2_with fail
              refine hRd.mono ?_
              rintro e W3 (⟨rfl, hJ3, hk3⟩ | ⟨rfl, hJx3⟩)
              · gi_wp2
                exact ⟨⟨j + 1, by go_num, hfin.out w2 _ (by omega) hb2 hkj (.inr hpj.out) hJ3 hk3⟩, by simp [intOf]; omega⟩
              · gi_wp2
                go_end0
                exact ⟨⟨_, rfl⟩, .inr ⟨_, trivial, hJx3⟩⟩
          · have hjn2 : j = n := by omega
            subst hjn2
            have hd2 : decide ((j : Int) < (j : Int)) = false := decide_eq_false (by omega)
            have hkj : k < j := by omega
            obtain ⟨fn, tm, asg, bdy, hy, hRd⟩ := hyy.out wr (Below.refl _ _) hkj
            gi_wp2_with fail
            refine ⟨fun _ h => (by cases h), ?_⟩
            gi_wp2_with fail
            refine hRd.mono ?_
            rintro e W3 (⟨rfl, hJ3, hk3⟩ | ⟨rfl, hJx3⟩)
            · gi_wp2
              exact ⟨⟨j + 1, by go_num, hfin.out wr _ (by omega) (Below.refl _ _) hkj (.inl (by trivial)) hJ3 hk3⟩, by simp [intOf]; omega⟩
            · gi_wp2
              go_end0
              exact ⟨⟨_, rfl⟩, .inr ⟨_, trivial, hJx3⟩⟩
    · have hd : decide ((k : Int) < (n : Int)) = false := decide_eq_false (by omega)
      obtain ⟨pre, hpre, hJp⟩ := hH.out.j
      rw [Nat.min_eq_right (by omega)] at hpre
      have hpre := Lib.hid hpre
      gi_wp2
      go_end0
      exact ⟨⟨_, rfl⟩, .inl ⟨pre, hpre.out, hJp⟩⟩
set_option maxRecDepth 100000 in
set_option maxHeartbeats 3200000 in
theorem runsC_in (m : Nat) (hm : 2 ≤ m) (l n c1 c2 : Nat) (hn : n ≤ 1000000) (t1 t2 t3 : ByteArray) (q1 q2 q3 : Nat) (p : Nat → Bool) (S : Nat → Prop) (E : World → Prop) (J Jx : List (SpN n) → World → Prop) (W : World)
    (hY : ∀ pre (x : SpN n) W, J pre W → pre.length < n + 1 → YieldAt Fence.wide (m - 1) Tryd.prog l #[spV x.1] W fun e W' =>
      (e = .returned (.bool true) ∧ J (pre ++ [x]) W' ∧ Frm S W W') ∨ (e = .returned (.bool false) ∧ Jx (pre ++ [x]) W'))
    (hJ : AbidesFrom W.heap.size J) (hc1 : W.cell? ⟨c1, 0, none⟩ = some (.int .i64 n)) (hc2 : W.cell? ⟨c2, 0, none⟩ = some (.func (.func 27) #[.agg #[.string t1, .string t2, .string t3]] #[])) (h1 : ¬ S c1) (h2 : ¬ S c2)
    (hE : ∀ A B, E A → Frm S A B → E B) (hE0 : E W)
    (hc : ∀ W' (i : Nat), E W' → i < n → Calls Tryd.prog 27 ((#[.agg #[.string t1, .string t2, .string t3]] ++ #[.int .i64 i]) ++ #[]) W' fun e W'' => e = .returned (.bool (p i)) ∧ Below W'.heap.size W' W'')
    (h0 : J [] W) :
    CallsIn Fence.wide m Tryd.prog 37 #[.func (.yield l) #[] #[], .pointer (some ⟨c1, 0, none⟩), .pointer (some ⟨c2, 0, none⟩)] W (RP n p J Jx) := by
  have h1n : 1 ≤ m := by omega
  have hstart : RH p n S E J W 0 W := ⟨by omega, .inl rfl, ⟨[], by rw [Nat.zero_min]; rfl, h0⟩, Frm.refl _ _, hE0⟩
  refine callsIn_of_wp Tryd.func37 rfl trivial ?_ rfl
  simp only [Tryd.ntmps37, List.size_toArray, List.length_cons, List.length_nil, Nat.reduceAdd, Nat.reduceSub, Array.replicate_succ, Array.replicate_zero, List.push_toArray, List.append_toArray, List.nil_append, List.cons_append]
  have hbel : ∀ pre A B, J pre A → Below A.heap.size A B → J pre B := fun pre A B h hb => hJ pre A B none h (grown_of hb) (fun r e => by cases e)
  have hcI : ∀ W' (i : Nat), E W' → i < n → CallsIn Fence.wide (m - 1) Tryd.prog 27 ((#[.agg #[.string t1, .string t2, .string t3]] ++ #[.int .i64 i]) ++ #[]) W' fun e W'' => e = .returned (.bool (p i)) ∧ Below W'.heap.size W' W'' := fun W' i h hi => callsIn_wide.2 (hc W' i h hi)
  simp only [List.append_toArray, List.nil_append, List.cons_append] at hcI
  have hcI := Lib.hid hcI
  have hcx1 : ∀ A, Frm S W A → A.cell? ⟨c1, 0, none⟩ = some (.int .i64 n) ∧ A.cell? ⟨c2, 0, none⟩ = some (.func (.func 27) #[.agg #[.string t1, .string t2, .string t3]] #[]) := fun A h => ⟨h.cell (p := ⟨c1, 0, none⟩) h1 hc1, h.cell (p := ⟨c2, 0, none⟩) h2 hc2⟩
  have hcx := Lib.hid hcx1
  clear hcx1 hc h0 hE0
  gi_wp2
  gi_loopw [4] (fun i wr => ∃ k : Nat, i = .int .i64 k ∧ Hid (RH p n S E J W k wr)) (fun i _ => n + 2 - (intOf i).toNat)
  case atStart => exact ⟨0, rfl, hstart⟩
  case round =>
    obtain ⟨k, rfl, hH⟩ := hrel
    clear hstart hc1 hc2
    obtain ⟨z1, z2⟩ := hcx.out wr hH.out.fr
    have hkn := hH.out.kn
    by_cases hlt : k < n
    · have hd : decide ((k : Int) < (n : Int)) = true := decide_eq_true (by omega)
      obtain ⟨pre, hpre, hJp⟩ := hH.out.j
      rw [Nat.min_eq_left (by omega)] at hpre
      have hfW := hH.out.fr
      have hEw := hH.out.e
      have hpk := hH.out.pk
      cases hp : p k with
      | false =>
        have hnx : ∀ w1, Below wr.heap.size wr w1 → RH p n S E J W (k + 1) w1 := fun w1 hb => ⟨by omega, .inr (.inr (by rw [show k + 1 - 1 = k by omega]; exact hp)), ⟨pre, by rw [Nat.min_eq_left (by omega), rs_no hp]; exact hpre, hbel _ _ _ hJp hb⟩, hfW.trans (.ofBelow hb), hE _ _ hEw (.ofBelow hb)⟩
        have hnx := Lib.hid hnx
        have hcc := hcI.out wr k hEw hlt
        rw [hp] at hcc
        have hcc := Lib.hid hcc
        clear hpre hJp hp hpk
        gi_wp2_with fail
        refine ⟨trivial, ?_⟩
        refine hcc.out.mono ?_
        rintro e w1 ⟨rfl, hb⟩
        gi_wp2
        exact ⟨⟨k + 1, by go_num, hnx.out _ hb⟩, by simp [intOf]; omega⟩
      | true =>
        have hlen : pre.length ≤ n := by
          have := congrArg List.length hpre
          rw [List.length_map] at this
          have := rs_len p k
          omega
        have hin0 : ∀ w1, Below wr.heap.size wr w1 → RI p n S E J W k pre k w1 := fun w1 hb => ⟨.inr rfl, by omega, fun x h1 h2 => by omega, hbel _ _ _ hJp hb, hfW.trans (.ofBelow hb), hE _ _ hEw (.ofBelow hb)⟩
        have hin0 := Lib.hid hin0
        have hcc := hcI.out wr k hEw hlt
        rw [hp] at hcc
        have hcc := Lib.hid hcc
        have hpre := Lib.hid hpre
        have hpk' : k = 0 ∨ p (k - 1) = false := by
          rcases hpk with h | h | h
          · exact .inl h
          · omega
          · exact .inr h
        have hpk := Lib.hid hpk'
        have hpx := Lib.hid hp
        clear hJp hp hpk'
        gi_wp2_with fail
        refine ⟨trivial, ?_⟩
        refine hcc.out.mono ?_
        rintro e w1 ⟨rfl, hb⟩
        gi_wp2_with fail
        have hi1 := hin0.out _ hb
        gi_loopw [4] (fun i wr => ∃ j : Nat, i = .int .i64 j ∧ Hid (RI p n S E J W k pre j wr)) (fun i _ => n + 1 - (intOf i).toNat)
        case atStart => exact ⟨k, rfl, hi1⟩
        case round =>
          obtain ⟨j, rfl, hI⟩ := hrel
          clear hi1
          obtain ⟨y1, y2⟩ := hcx.out _ hI.out.fr
          have hjn := hI.out.jn
          have hkj0 : k ≤ j := by have := hI.out.kj; omega
          have hyy : ∀ w1, Below wr.heap.size wr w1 → ∀ (hkj : k < j), YieldAt Fence.wide (m - 1) Tryd.prog l #[.agg #[.int .i64 k, .int .i64 j]] w1 fun e W' =>
              (e = .returned (.bool true) ∧ J (pre ++ [⟨(k, j), by simp; omega, hjn⟩]) W' ∧ Frm S w1 W') ∨ (e = .returned (.bool false) ∧ Jx (pre ++ [⟨(k, j), by simp; omega, hjn⟩]) W') := fun w1 hb hkj =>
            hY pre ⟨(k, j), by simp; omega, hjn⟩ w1 (hbel _ _ _ hI.out.jj hb) (by omega)
          have hyy := Lib.hid hyy
          have hfin : ∀ w1 w2 (h : k < j), Below wr.heap.size wr w1 → k < j → (j = n ∨ p j = false) → J (pre ++ [⟨(k, j), by simp; omega, hjn⟩]) w2 → Frm S w1 w2 → RH p n S E J W (j + 1) w2 := fun w1 w2 h hb hkj hend hJ2 hf2 => by
            obtain ⟨d, rfl⟩ : ∃ d, j = k + d + 1 := ⟨j - k - 1, by omega⟩
            have hr := rs_run p k hpk.out d hI.out.al
            refine ⟨by omega, ?_, ⟨_, ?_, hJ2⟩, (hI.out.fr.trans (.ofBelow hb)).trans hf2, hE _ _ (hE _ _ hI.out.e (.ofBelow hb)) hf2⟩
            · rcases hend with h | h
              · exact .inr (.inl (by omega))
              · exact .inr (.inr (by rw [show k + d + 1 + 1 - 1 = k + d + 1 by omega]; exact h))
            · rw [List.map_append, hpre.out, List.map_cons, List.map_nil, ← hr]
              rcases hend with h | h
              · rw [Nat.min_eq_right (by omega), h]
              · by_cases hjj : k + d + 1 + 1 ≤ n
                · rw [Nat.min_eq_left hjj, rs_no h]
                · rw [Nat.min_eq_right (by omega), show n = k + d + 1 by omega]
          have hfin := Lib.hid hfin
          by_cases hjlt : j < n
          · have hd2 : decide ((j : Int) < (n : Int)) = true := decide_eq_true (by omega)
            have hcj := hcI.out wr j hI.out.e hjlt
            cases hpj : p j with
            | true =>
              have hnx : ∀ w1, Below wr.heap.size wr w1 → RI p n S E J W k pre (j + 1) w1 := fun w1 hb => ⟨.inl (by have := hI.out.kj; omega), by omega, fun x h1 h2 => by
                by_cases e : x = j
                · rw [e]; exact hpj
                · exact hI.out.al x h1 (by omega), hbel _ _ _ hI.out.jj hb, hI.out.fr.trans (.ofBelow hb), hE _ _ hI.out.e (.ofBelow hb)⟩
              have hnx := Lib.hid hnx
              rw [hpj] at hcj
              have hcj := Lib.hid hcj
              clear hpj
              gi_wp2_with fail
              refine ⟨trivial, ?_⟩
              refine hcj.out.mono ?_
              rintro e w2 ⟨rfl, hb2⟩
              gi_wp2
              exact ⟨⟨j + 1, by go_num, hnx.out _ hb2⟩, by simp [intOf]; omega⟩
            | false =>
              have hkj : k < j := by
                rcases hI.out.kj with h | h
                · exact h
                · rw [← h, hpx.out] at hpj; cases hpj
              rw [hpj] at hcj
              have hcj := Lib.hid hcj
              have hpj := Lib.hid hpj
              gi_wp2_with fail
              refine ⟨trivial, ?_⟩
              refine hcj.out.mono ?_
              rintro e w2 ⟨rfl, hb2⟩
              obtain ⟨fn, tm, asg, bdy, hy, hRd⟩ := hyy.out w2 hb2 hkj
              gi_wp2_with fail
              refine hRd.mono ?_
              rintro e W3 (⟨rfl, hJ3, hk3⟩ | ⟨rfl, hJx3⟩)
              · gi_wp2
                exact ⟨⟨j + 1, by go_num, hfin.out w2 _ (by omega) hb2 hkj (.inr hpj.out) hJ3 hk3⟩, by simp [intOf]; omega⟩
              · gi_wp2
                go_end0
                exact ⟨⟨_, rfl⟩, .inr ⟨_, trivial, hJx3⟩⟩
          · have hjn2 : j = n := by omega
            subst hjn2
            have hd2 : decide ((j : Int) < (j : Int)) = false := decide_eq_false (by omega)
            have hkj : k < j := by omega
            obtain ⟨fn, tm, asg, bdy, hy, hRd⟩ := hyy.out wr (Below.refl _ _) hkj
            gi_wp2_with fail
            refine ⟨fun _ h => (by cases h), ?_⟩
            gi_wp2_with fail
            refine hRd.mono ?_
            rintro e W3 (⟨rfl, hJ3, hk3⟩ | ⟨rfl, hJx3⟩)
            · gi_wp2
              exact ⟨⟨j + 1, by go_num, hfin.out wr _ (by omega) (Below.refl _ _) hkj (.inl (by trivial)) hJ3 hk3⟩, by simp [intOf]; omega⟩
            · gi_wp2
              go_end0
              exact ⟨⟨_, rfl⟩, .inr ⟨_, trivial, hJx3⟩⟩
    · have hd : decide ((k : Int) < (n : Int)) = false := decide_eq_false (by omega)
      obtain ⟨pre, hpre, hJp⟩ := hH.out.j
      rw [Nat.min_eq_right (by omega)] at hpre
      have hpre := Lib.hid hpre
      gi_wp2
      go_end0
      exact ⟨⟨_, rfl⟩, .inl ⟨pre, hpre.out, hJp⟩⟩
theorem runs_fn (n : Int) (fn : Fn) (ts cs : Array Value) (w : World) : Calls Tryd.prog 24 #[.int .i64 n, .func fn ts cs] w fun e w' => e = .returned (.func (.func 37) #[] #[.pointer (some ⟨w.heap.size, 0, none⟩), .pointer (some ⟨w.heap.size + 1, 0, none⟩)]) ∧ w' = (w.alloc (.cells #[.int .i64 n] 3)).alloc (.cells #[.func fn ts cs] 54) := by
  go_enter Tryd.func24, Tryd.ntmps24
  go_wp2
  go_ret
  exact ⟨rfl, rfl⟩
end Go.Proofs.YtlmmmibnnbceeaaDoor
