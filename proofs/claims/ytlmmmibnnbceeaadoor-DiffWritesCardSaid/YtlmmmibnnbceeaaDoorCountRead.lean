/-
  The number that a text says (chapter 1): walks.
-/
import Derived.Test.YtlmmmibnnbceeaaDoorCount
import Derived.Test.YtlmmmibnnbceeaaDoorBytes
namespace Go.Proofs.YtlmmmibnnbceeaaDoor
open Go.RowKit
set_option linter.unusedVariables false
set_option linter.unusedSimpArgs false

/-- a text begins with '-' -/
def negB (s : ByteArray) : Bool := decide (1 ≤ s.size) && ((s.extract 0 1).toList == [45])
theorem has_any (s : ByteArray) (w : World) : Calls Tryd.prog 62 #[.string s, .string ⟨#[45]⟩] w fun e w' => e = .returned (.bool (negB s)) ∧ w = w' := by
  by_cases h : (1 : Int) ≤ (s.size : Int)
  · have HF : Hid (((s.extract 0 1).toList == [45]) = negB s) := by show _ = _; unfold negB; rw [decide_eq_true (by omega)]; rfl
    go_enter Tryd.func62, Tryd.ntmps62
    go_wp2
    go_ret
    exact ⟨congrArg (fun x => Ending.returned (.bool x)) HF.out, rfl⟩
  · have HF : Hid (false = negB s) := by show _ = _; unfold negB; rw [decide_eq_false (by omega)]; rfl
    go_enter Tryd.func62, Tryd.ntmps62
    go_wp2
    go_ret
    exact ⟨congrArg (fun x => Ending.returned (.bool x)) HF.out, rfl⟩
/-- the text behind '-' -/
def cutS (s : ByteArray) : ByteArray := if negB s = true then s.extract 1 s.size else s
theorem cut_any (s : ByteArray) (w : World) : Calls Tryd.prog 59 #[.string s, .string ⟨#[45]⟩] w fun e w' => e = .returned (.tuple #[.string (cutS s), .bool (negB s)]) ∧ w = w' := by
  cases h : negB s
  · have HF : Hid (s = cutS s) := by show _ = _; unfold cutS; rw [h]; rfl
    go_enter Tryd.func59, Tryd.ntmps59
    go_wp2_with (go_at_call 62; (with_reducible refine (has_any _ _).mono ?_); rintro e wx ⟨rfl, rfl⟩)
    exact bodyPost_ret (v := .tuple #[.string s, .bool false]) (by simp [results, Tryd.results59, go_sem]) rfl ⟨congrArg (fun x => Ending.returned (.tuple #[.string x, .bool false])) HF.out, rfl⟩
  · have HF : Hid (s.extract 1 s.size = cutS s) := by show _ = _; unfold cutS; rw [h]; rfl
    have hn : (1 : Int) ≤ (s.size : Int) := by unfold negB at h; rw [Bool.and_eq_true, decide_eq_true_iff] at h; omega
    go_enter Tryd.func59, Tryd.ntmps59
    go_wp2_with (go_at_call 62; (with_reducible refine (has_any _ _).mono ?_); rintro e wx ⟨rfl, rfl⟩)
    exact bodyPost_ret (v := .tuple #[.string (s.extract 1 s.size), .bool true]) (by simp [results, Tryd.results59, go_sem]) rfl ⟨congrArg (fun x => Ending.returned (.tuple #[.string x, .bool true])) HF.out, rfl⟩
theorem Cut_any (s : ByteArray) (w : World) : Calls Tryd.prog 51 #[.string s, .string ⟨#[45]⟩] w fun e w' => e = .returned (.tuple #[.string (cutS s), .bool (negB s)]) ∧ w = w' := by
  go_enter Tryd.func51, Tryd.ntmps51
  go_wp2_with (go_at_call 59; (with_reducible refine (cut_any _ _).mono ?_); rintro e wx ⟨rfl, rfl⟩)
  exact bodyPost_ret (v := .tuple #[.string (cutS s), .bool (negB s)]) (by simp [results, Tryd.results51, go_sem]) rfl ⟨rfl, rfl⟩
/-- all of the first n bytes are digits -/
def allD (d : ByteArray) (n : Nat) : Prop := ∀ j, j < n → 48 ≤ gd d j ∧ gd d j ≤ 57
def formOk (s : ByteArray) : Prop := 0 < (cutS s).size ∧ ¬ (1 < (cutS s).size ∧ gd (cutS s) 0 = 48) ∧ ¬ (negB s = true ∧ ((cutS s).toList == [48]) = true) ∧ allD (cutS s) (cutS s).size
theorem allD_succ {d : ByteArray} {k : Nat} (h : allD d k) (h1 : 48 ≤ gd d k) (h2 : gd d k ≤ 57) : allD d (k + 1) := fun j hj => by
  rcases Nat.lt_or_ge j k with h3 | h3
  · exact h j h3
  · obtain rfl : j = k := by omega
    exact ⟨h1, h2⟩
set_option maxHeartbeats 3200000 in
theorem form_any (s : ByteArray) (w : World) (hs : s.size ≤ 140737488355328) : Calls Tryd.prog 43 #[.string s] w fun e w' => ((formOk s ∧ e = .returned (.tuple #[.string (cutS s), .bool true])) ∨ (¬ formOk s ∧ e = .returned (.tuple #[.string ⟨#[]⟩, .bool false]))) ∧ w = w' := by
  have hF := Lib.hid (show formOk s ↔ 0 < (cutS s).size ∧ ¬ (1 < (cutS s).size ∧ gd (cutS s) 0 = 48) ∧ ¬ (negB s = true ∧ ((cutS s).toList == [48]) = true) ∧ allD (cutS s) (cutS s).size from Iff.rfl)
  have hds : (cutS s).size ≤ 140737488355328 := by
    unfold cutS; split
    · rw [ByteArray.size_extract]; omega
    · exact hs
  clear hs
  generalize hd : cutS s = d at *
  generalize hb : negB s = b at *
  by_cases h0 : d.size = 0
  · have he : d.toList.isEmpty = true := by rw [empty_size]; exact decide_eq_true h0
    have hno : Hid (¬ formOk s) := fun h => by have := (hF.out.1 h).1; omega
    go_enter Tryd.func43, Tryd.ntmps43
    go_wp2_with (go_at_call 51; (with_reducible refine (Cut_any _ _).mono ?_); rintro e wx ⟨rfl, rfl⟩; rw [hd, hb])
    exact bodyPost_ret (v := .tuple #[.string ⟨#[]⟩, .bool false]) (by simp [results, Tryd.results43, go_sem]) rfl ⟨.inr ⟨hno.out, rfl⟩, rfl⟩
  have he : d.toList.isEmpty = false := by rw [empty_size]; exact decide_eq_false h0
  have hp : 0 < d.size := by omega
  have hg0 := gd_eq hp
  by_cases h1 : 1 < d.size
  · have h1' : (1 : Int) < (d.size : Int) := by omega
    by_cases h2 : gd d 0 = 48
    · have hno : Hid (¬ formOk s) := fun h => (hF.out.1 h).2.1 ⟨h1, h2⟩
      go_enter Tryd.func43, Tryd.ntmps43
      go_wp2_with (go_at_call 51; (with_reducible refine (Cut_any _ _).mono ?_); rintro e wx ⟨rfl, rfl⟩; rw [hd, hb])
      exact bodyPost_ret (v := .tuple #[.string ⟨#[]⟩, .bool false]) (by simp [results, Tryd.results43, go_sem]) rfl ⟨.inr ⟨hno.out, rfl⟩, rfl⟩
    · have h2' : ((gd d 0 : Int) == 48) = false := by rw [beq_eq_false_iff_ne]; omega
      have h3 : (d.toList == [48]) = false := by
        rw [beq_eq_false_iff_ne]; intro h4; have h5 := congrArg List.length h4; rw [toList_len] at h5; simp at h5; omega
      have hyes : formOk s ↔ allD d d.size := by
        rw [hF.out]; exact ⟨fun h => h.2.2.2, fun h => ⟨hp, fun h' => h2 h'.2, fun h' => (by rw [h3] at h'; cases h'.2), h⟩⟩
      cases b
      · have HY := Lib.hid hyes
        clear hyes hF
        go_enter Tryd.func43, Tryd.ntmps43
        go_wp2_with (go_at_call 51; (with_reducible refine (Cut_any _ _).mono ?_); rintro e wx ⟨rfl, rfl⟩; rw [hd, hb])
        go_loopw [30] (fun i wr => ∃ k : Nat, k ≤ d.size ∧ i = .int .i64 k ∧ Hid (allD d k) ∧ wr = w) (fun i _ => d.size - (intOf i).toNat)
        case atStart => exact ⟨0, Nat.zero_le _, rfl, (fun j hj => by omega), rfl⟩
        case round =>
          obtain ⟨k, hk, rfl, HD, rfl⟩ := hrel
          by_cases hlt : k < d.size
          · have hgk := gd_eq hlt
            by_cases hlo : gd d k < 48
            · have hno : Hid (¬ formOk s) := fun h => by have := (HY.out.1 h k hlt).1; omega
              go_wp2
              exact bodyPost_ret (v := .tuple #[.string ⟨#[]⟩, .bool false]) (by simp [results, Tryd.results43, go_sem]) rfl ⟨.inr ⟨hno.out, rfl⟩, rfl⟩
            · by_cases hhi : 57 < gd d k
              · have hno : Hid (¬ formOk s) := fun h => by have := (HY.out.1 h k hlt).2; omega
                go_wp2
                exact bodyPost_ret (v := .tuple #[.string ⟨#[]⟩, .bool false]) (by simp [results, Tryd.results43, go_sem]) rfl ⟨.inr ⟨hno.out, rfl⟩, rfl⟩
              · go_wp2
                exact ⟨⟨k + 1, by omega, by go_num, allD_succ HD.out (by omega) (by omega), (by first | trivial | rfl)⟩, by simp [intOf]; omega⟩
          · have hkd : k = d.size := by omega
            have hyes : Hid (formOk s) := HY.out.2 (hkd ▸ HD.out)
            go_wp2
            exact bodyPost_ret (v := .tuple #[.string d, .bool true]) (by simp [results, Tryd.results43, go_sem]) rfl ⟨.inl ⟨hyes.out, rfl⟩, rfl⟩
      · have HY := Lib.hid hyes
        clear hyes hF
        go_enter Tryd.func43, Tryd.ntmps43
        go_wp2_with (go_at_call 51; (with_reducible refine (Cut_any _ _).mono ?_); rintro e wx ⟨rfl, rfl⟩; rw [hd, hb])
        go_loopw [30] (fun i wr => ∃ k : Nat, k ≤ d.size ∧ i = .int .i64 k ∧ Hid (allD d k) ∧ wr = w) (fun i _ => d.size - (intOf i).toNat)
        case atStart => exact ⟨0, Nat.zero_le _, rfl, (fun j hj => by omega), rfl⟩
        case round =>
          obtain ⟨k, hk, rfl, HD, rfl⟩ := hrel
          by_cases hlt : k < d.size
          · have hgk := gd_eq hlt
            by_cases hlo : gd d k < 48
            · have hno : Hid (¬ formOk s) := fun h => by have := (HY.out.1 h k hlt).1; omega
              go_wp2
              exact bodyPost_ret (v := .tuple #[.string ⟨#[]⟩, .bool false]) (by simp [results, Tryd.results43, go_sem]) rfl ⟨.inr ⟨hno.out, rfl⟩, rfl⟩
            · by_cases hhi : 57 < gd d k
              · have hno : Hid (¬ formOk s) := fun h => by have := (HY.out.1 h k hlt).2; omega
                go_wp2
                exact bodyPost_ret (v := .tuple #[.string ⟨#[]⟩, .bool false]) (by simp [results, Tryd.results43, go_sem]) rfl ⟨.inr ⟨hno.out, rfl⟩, rfl⟩
              · go_wp2
                exact ⟨⟨k + 1, by omega, by go_num, allD_succ HD.out (by omega) (by omega), (by first | trivial | rfl)⟩, by simp [intOf]; omega⟩
          · have hkd : k = d.size := by omega
            have hyes : Hid (formOk s) := HY.out.2 (hkd ▸ HD.out)
            go_wp2
            exact bodyPost_ret (v := .tuple #[.string d, .bool true]) (by simp [results, Tryd.results43, go_sem]) rfl ⟨.inl ⟨hyes.out, rfl⟩, rfl⟩
  · have h1' : ¬ (1 : Int) < (d.size : Int) := by omega
    cases b
    · have hyes : formOk s ↔ allD d d.size := by
        rw [hF.out]; exact ⟨fun h => h.2.2.2, fun h => ⟨hp, fun h' => h1 h'.1, fun h' => (by cases h'.1), h⟩⟩
      have HY := Lib.hid hyes
      clear hyes hF
      go_enter Tryd.func43, Tryd.ntmps43
      go_wp2_with (go_at_call 51; (with_reducible refine (Cut_any _ _).mono ?_); rintro e wx ⟨rfl, rfl⟩; rw [hd, hb])
      go_loopw [30] (fun i wr => ∃ k : Nat, k ≤ d.size ∧ i = .int .i64 k ∧ Hid (allD d k) ∧ wr = w) (fun i _ => d.size - (intOf i).toNat)
      case atStart => exact ⟨0, Nat.zero_le _, rfl, (fun j hj => by omega), rfl⟩
      case round =>
        obtain ⟨k, hk, rfl, HD, rfl⟩ := hrel
        by_cases hlt : k < d.size
        · have hgk := gd_eq hlt
          by_cases hlo : gd d k < 48
          · have hno : Hid (¬ formOk s) := fun h => by have := (HY.out.1 h k hlt).1; omega
            go_wp2
            exact bodyPost_ret (v := .tuple #[.string ⟨#[]⟩, .bool false]) (by simp [results, Tryd.results43, go_sem]) rfl ⟨.inr ⟨hno.out, rfl⟩, rfl⟩
          · by_cases hhi : 57 < gd d k
            · have hno : Hid (¬ formOk s) := fun h => by have := (HY.out.1 h k hlt).2; omega
              go_wp2
              exact bodyPost_ret (v := .tuple #[.string ⟨#[]⟩, .bool false]) (by simp [results, Tryd.results43, go_sem]) rfl ⟨.inr ⟨hno.out, rfl⟩, rfl⟩
            · go_wp2
              exact ⟨⟨k + 1, by omega, by go_num, allD_succ HD.out (by omega) (by omega), (by first | trivial | rfl)⟩, by simp [intOf]; omega⟩
        · have hkd : k = d.size := by omega
          have hyes : Hid (formOk s) := HY.out.2 (hkd ▸ HD.out)
          go_wp2
          exact bodyPost_ret (v := .tuple #[.string d, .bool true]) (by simp [results, Tryd.results43, go_sem]) rfl ⟨.inl ⟨hyes.out, rfl⟩, rfl⟩
    · cases h3 : (d.toList == [48])
      · have hyes : formOk s ↔ allD d d.size := by
          rw [hF.out]; exact ⟨fun h => h.2.2.2, fun h => ⟨hp, fun h' => h1 h'.1, fun h' => (by rw [h3] at h'; cases h'.2), h⟩⟩
        have HY := Lib.hid hyes
        clear hyes hF
        go_enter Tryd.func43, Tryd.ntmps43
        go_wp2_with (go_at_call 51; (with_reducible refine (Cut_any _ _).mono ?_); rintro e wx ⟨rfl, rfl⟩; rw [hd, hb])
        go_loopw [30] (fun i wr => ∃ k : Nat, k ≤ d.size ∧ i = .int .i64 k ∧ Hid (allD d k) ∧ wr = w) (fun i _ => d.size - (intOf i).toNat)
        case atStart => exact ⟨0, Nat.zero_le _, rfl, (fun j hj => by omega), rfl⟩
        case round =>
          obtain ⟨k, hk, rfl, HD, rfl⟩ := hrel
          by_cases hlt : k < d.size
          · have hgk := gd_eq hlt
            by_cases hlo : gd d k < 48
            · have hno : Hid (¬ formOk s) := fun h => by have := (HY.out.1 h k hlt).1; omega
              go_wp2
              exact bodyPost_ret (v := .tuple #[.string ⟨#[]⟩, .bool false]) (by simp [results, Tryd.results43, go_sem]) rfl ⟨.inr ⟨hno.out, rfl⟩, rfl⟩
            · by_cases hhi : 57 < gd d k
              · have hno : Hid (¬ formOk s) := fun h => by have := (HY.out.1 h k hlt).2; omega
                go_wp2
                exact bodyPost_ret (v := .tuple #[.string ⟨#[]⟩, .bool false]) (by simp [results, Tryd.results43, go_sem]) rfl ⟨.inr ⟨hno.out, rfl⟩, rfl⟩
              · go_wp2
                exact ⟨⟨k + 1, by omega, by go_num, allD_succ HD.out (by omega) (by omega), (by first | trivial | rfl)⟩, by simp [intOf]; omega⟩
          · have hkd : k = d.size := by omega
            have hyes : Hid (formOk s) := HY.out.2 (hkd ▸ HD.out)
            go_wp2
            exact bodyPost_ret (v := .tuple #[.string d, .bool true]) (by simp [results, Tryd.results43, go_sem]) rfl ⟨.inl ⟨hyes.out, rfl⟩, rfl⟩
      · have hno : Hid (¬ formOk s) := fun h => (hF.out.1 h).2.2.1 ⟨rfl, h3⟩
        go_enter Tryd.func43, Tryd.ntmps43
        go_wp2_with (go_at_call 51; (with_reducible refine (Cut_any _ _).mono ?_); rintro e wx ⟨rfl, rfl⟩; rw [hd, hb])
        exact bodyPost_ret (v := .tuple #[.string ⟨#[]⟩, .bool false]) (by simp [results, Tryd.results43, go_sem]) rfl ⟨.inr ⟨hno.out, rfl⟩, rfl⟩
end Go.Proofs.YtlmmmibnnbceeaaDoor
