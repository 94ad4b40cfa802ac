/-
  The number that a text says (chapter 1): count.Read.
-/
import Derived.Test.YtlmmmibnnbceeaaDoorCountRead
namespace Go.Proofs.YtlmmmibnnbceeaaDoor
open Go.RowKit
set_option linter.unusedVariables false
set_option linter.unusedSimpArgs false

def allDB (d : ByteArray) (n : Nat) : Bool := (List.range n).all fun j => decide (48 ≤ gd d j) && decide (gd d j ≤ 57)
theorem allDB_iff {d : ByteArray} {n : Nat} : allDB d n = true ↔ allD d n := by
  unfold allDB allD
  rw [List.all_eq_true]
  constructor
  · intro h j hj
    have := h j (List.mem_range.2 hj)
    rw [Bool.and_eq_true, decide_eq_true_iff, decide_eq_true_iff] at this
    exact this
  · intro h j hj
    rw [Bool.and_eq_true, decide_eq_true_iff, decide_eq_true_iff]
    exact h j (List.mem_range.1 hj)
def formB (s : ByteArray) : Bool := decide (0 < (cutS s).size) && !(decide (1 < (cutS s).size) && decide (gd (cutS s) 0 = 48)) && !(negB s && ((cutS s).toList == [48])) && allDB (cutS s) (cutS s).size
theorem formB_iff {s : ByteArray} : formB s = true ↔ formOk s := by
  unfold formB formOk
  rw [Bool.and_eq_true, Bool.and_eq_true, Bool.and_eq_true, decide_eq_true_iff, allDB_iff, Bool.not_eq_true', Bool.not_eq_true', ← Bool.not_eq_true, ← Bool.not_eq_true, Bool.and_eq_true, Bool.and_eq_true, decide_eq_true_iff, decide_eq_true_iff]
  exact ⟨fun h => ⟨h.1.1.1, h.1.1.2, h.1.2, h.2⟩, fun h => ⟨⟨⟨h.1, h.2.1⟩, h.2.2.1⟩, h.2.2.2⟩⟩
theorem form_yes {s : ByteArray} (h : formB s = true) (w : World) (hs : s.size ≤ 140737488355328) : Calls Tryd.prog 43 #[.string s] w fun e w' => e = .returned (.tuple #[.string (cutS s), .bool true]) ∧ w = w' := by
  refine (form_any s w hs).mono ?_
  rintro e w' ⟨h1 | h1, rfl⟩
  · exact ⟨h1.2, rfl⟩
  · exact absurd (formB_iff.1 h) h1.1
theorem form_no {s : ByteArray} (h : formB s = false) (w : World) (hs : s.size ≤ 140737488355328) : Calls Tryd.prog 43 #[.string s] w fun e w' => e = .returned (.tuple #[.string ⟨#[]⟩, .bool false]) ∧ w = w' := by
  refine (form_any s w hs).mono ?_
  rintro e w' ⟨h1 | h1, rfl⟩
  · rw [formB_iff.2 h1.1] at h; cases h
  · exact ⟨h1.2, rfl⟩
/-- what the first k digits say -/
def valN (d : ByteArray) : Nat → Nat
  | 0 => 0
  | k + 1 => valN d k * 10 + (gd d k - 48)
theorem valN_le (d : ByteArray) (k j : Nat) : valN d k ≤ valN d (k + j) := by
  induction j with
  | zero => exact Nat.le_refl _
  | succ j ih => show valN d k ≤ valN d (k + j) * 10 + _; omega
theorem valN_le' (d : ByteArray) {k n : Nat} (h : k ≤ n) : valN d k ≤ valN d n := by
  obtain ⟨j, rfl⟩ : ∃ j, n = k + j := ⟨n - k, by omega⟩
  exact valN_le d k j
def readN (s : ByteArray) : Nat := valN (cutS s) (cutS s).size
def readE (s : ByteArray) : Int := if formB s = true then (if readN s ≤ (if negB s = true then 9223372036854775808 else 9223372036854775807) then 0 else 3) else 4
def readV (s : ByteArray) : Int := if readE s = 0 then (if negB s = true then -(readN s : Int) else (readN s : Int)) else 0
theorem read_no {s : ByteArray} (h : formB s = false) : readE s = 4 ∧ readV s = 0 := by
  have e : readE s = 4 := by unfold readE; rw [h]; rfl
  exact ⟨e, by unfold readV; rw [e]; rfl⟩
theorem read_big {s : ByteArray} (h : formB s = true) (hb : 9223372036854775808 < readN s) : readE s = 3 ∧ readV s = 0 := by
  have e : readE s = 3 := by unfold readE; rw [if_pos h, if_neg]; split <;> omega
  exact ⟨e, by unfold readV; rw [e]; rfl⟩
theorem read_neg {s : ByteArray} (h : formB s = true) (hn : negB s = true) (hb : readN s ≤ 9223372036854775808) : readE s = 0 ∧ readV s = -(readN s : Int) := by
  have e : readE s = 0 := by unfold readE; rw [if_pos h, if_pos hn, if_pos hb]
  exact ⟨e, by unfold readV; rw [if_pos e, if_pos hn]⟩
theorem read_pos {s : ByteArray} (h : formB s = true) (hn : negB s = false) (hb : readN s ≤ 9223372036854775807) : readE s = 0 ∧ readV s = (readN s : Int) := by
  have e : readE s = 0 := by unfold readE; rw [if_pos h, hn]; exact if_pos hb
  exact ⟨e, by unfold readV; rw [if_pos e, hn]; rfl⟩
theorem read_over {s : ByteArray} (h : formB s = true) (hn : negB s = false) (hb : readN s = 9223372036854775808) : readE s = 3 ∧ readV s = 0 := by
  have e : readE s = 3 := by unfold readE; rw [if_pos h, hn]; exact if_neg (by show ¬ readN s ≤ 9223372036854775807; omega)
  exact ⟨e, by unfold readV; rw [e]; rfl⟩

set_option maxHeartbeats 3200000 in
theorem read_any (s : ByteArray) (w : World) (hs : s.size ≤ 140737488355328) : Calls Tryd.prog 32 #[.string s] w fun e w' => e = .returned (.tuple #[.int .i64 (readV s), .int .i64 (readE s)]) ∧ w = w' := by
  cases hf : formB s
  · obtain ⟨e1, e2⟩ := read_no hf
    rw [e1, e2]
    clear e1 e2
    go_enter Tryd.func32, Tryd.ntmps32
    go_wp2_with (go_at_call 43; (with_reducible refine (form_no hf _ hs).mono ?_); rintro e wx ⟨rfl, rfl⟩)
    exact bodyPost_ret (v := .tuple #[.int .i64 0, .int .i64 4]) (by simp [results, Tryd.results32, go_sem]) rfl ⟨rfl, rfl⟩
  · have hok := (formB_iff.1 hf).2.2.2
    have hds : (cutS s).size ≤ 140737488355328 := by
      unfold cutS; split
      · rw [ByteArray.size_extract]; omega
      · exact hs
    have HBIG := Lib.hid (fun hb => read_big hf hb)
    have HNEG := Lib.hid (fun hn hb => read_neg hf hn hb)
    have HPOS := Lib.hid (fun hn hb => read_pos hf hn hb)
    have HOVER := Lib.hid (fun hn hb => read_over hf hn hb)
    have HR := Lib.hid (show readN s = valN (cutS s) (cutS s).size from rfl)
    have HOK := Lib.hid hok
    have HS := Lib.hid hs
    have HFo := Lib.hid (fun w => form_yes hf w hs)
    have hse : ((cutS s).toList == s.toList) = !(negB s) := by
      cases hn : negB s
      · rw [show cutS s = s by unfold cutS; rw [hn]; rfl]; simp
      · have h1 : 1 ≤ s.size := by unfold negB at hn; rw [Bool.and_eq_true, decide_eq_true_iff] at hn; exact hn.1
        show _ = false
        rw [beq_eq_false_iff_ne]
        intro h2
        have h3 := congrArg List.length h2
        rw [toList_len, toList_len] at h3
        rw [show cutS s = s.extract 1 s.size by unfold cutS; rw [hn]; rfl, ByteArray.size_extract] at h3
        omega
    generalize hd : cutS s = d at *
    generalize hb : negB s = b at *
    generalize hv : readV s = V at *
    generalize hE : readE s = E at *
    clear hv hE hb hd hok hs hf
    go_enter Tryd.func32, Tryd.ntmps32
    go_wp2_with (go_at_call 43; (with_reducible refine (HFo.out _).mono ?_); rintro e wx ⟨rfl, rfl⟩)
    go_loopw [6, 18] (fun n i wr => ∃ k : Nat, k ≤ d.size ∧ i = .int .i64 k ∧ n = .int .i64 (-(valN d k : Int)) ∧ valN d k ≤ 9223372036854775808 ∧ wr = w) (fun _ i _ => d.size - (intOf i).toNat)
    case atStart => exact ⟨0, Nat.zero_le _, rfl, rfl, Nat.zero_le _, rfl⟩
    case round =>
      obtain ⟨k, hk, rfl, rfl, hv, rfl⟩ := hrel
      by_cases hlt : k < d.size
      · have hgk := gd_eq hlt
        obtain ⟨hlo, hhi⟩ := HOK.out k hlt
        have hsucc : Hid (valN d (k + 1) = valN d k * 10 + (gd d k - 48)) := rfl
        have hle : Hid (valN d (k + 1) ≤ valN d d.size) := valN_le' d (by omega)
        obtain ⟨q, hq⟩ : ∃ q, gd d k = q + 48 := ⟨gd d k - 48, by omega⟩
        rw [hq] at hgk hlo hhi hsucc
        by_cases h1 : (922337203685477580 : Int) < (valN d k : Int)
        · have HFIN : Hid (E = 3 ∧ V = 0) := HBIG.out (by rw [HR.out]; have := hle.out; have := hsucc.out; omega)
          go_wp2
          have hfin := HFIN.out
          exact bodyPost_ret (v := .tuple #[.int .i64 0, .int .i64 3]) (by simp [results, Tryd.results32, go_sem]) rfl ⟨by rw [hfin.1, hfin.2], rfl⟩
        · by_cases h2 : (9223372036854775808 : Int) < (valN d k : Int) * 10 + q
          · have HFIN : Hid (E = 3 ∧ V = 0) := HBIG.out (by rw [HR.out]; have := hle.out; have := hsucc.out; omega)
            have h2' : (-(valN d k : Int)) * 10 < -9223372036854775808 + (q : Int) := by omega
            go_wp2
            have hfin := HFIN.out
            exact bodyPost_ret (v := .tuple #[.int .i64 0, .int .i64 3]) (by simp [results, Tryd.results32, go_sem]) rfl ⟨by rw [hfin.1, hfin.2], rfl⟩
          · have h2' : ¬ (-(valN d k : Int)) * 10 < -9223372036854775808 + (q : Int) := by omega
            go_wp2
            refine ⟨⟨k + 1, by omega, by go_num, ?_, ?_, by first | trivial | rfl⟩, by simp [intOf]; omega⟩
            · have := hsucc.out
              exact congrArg (Value.int IntKind.i64) (by omega)
            · have := hsucc.out; omega
      · have hkd : k = d.size := by omega
        subst hkd
        have HRv := HR.out
        cases b
        · by_cases hv2 : valN d d.size = 9223372036854775808
          · have HFIN := Lib.hid (HOVER.out rfl (by omega))
            go_wp2
            have hfin := HFIN.out
            exact bodyPost_ret (v := .tuple #[.int .i64 0, .int .i64 3]) (by simp [results, Tryd.results32, go_sem]) rfl ⟨by rw [hfin.1, hfin.2], rfl⟩
          · have HFIN := Lib.hid (HPOS.out rfl (by omega))
            have hne : ((valN d d.size : Int) == 9223372036854775808) = false := by rw [beq_eq_false_iff_ne]; omega
            go_wp2
            have hfin := HFIN.out
            exact bodyPost_ret (v := .tuple #[.int .i64 (valN d d.size), .int .i64 0]) (by simp [results, Tryd.results32, go_sem]) rfl ⟨by rw [hfin.1, hfin.2, HR.out], by first | trivial | rfl⟩
        · have HFIN := Lib.hid (HNEG.out rfl (by omega))
          go_wp2
          have hfin := HFIN.out
          exact bodyPost_ret (v := .tuple #[.int .i64 (-(valN d d.size : Int)), .int .i64 0]) (by simp [results, Tryd.results32, go_sem]) rfl ⟨by rw [hfin.1, hfin.2, HR.out], by first | trivial | rfl⟩
end Go.Proofs.YtlmmmibnnbceeaaDoor
