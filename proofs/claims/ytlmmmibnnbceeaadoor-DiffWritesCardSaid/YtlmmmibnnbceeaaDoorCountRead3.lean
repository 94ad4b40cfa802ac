/-
  The number that a text says (chapter 1): the reference.
-/
import Derived.Test.YtlmmmibnnbceeaaDoorCountCmp
namespace Go.Proofs.YtlmmmibnnbceeaaDoor
open Go.RowKit
set_option linter.unusedVariables false
set_option linter.unusedSimpArgs false

theorem neg_iff {s : ByteArray} : negB s = true ↔ 0 < s.size ∧ gd s 0 = 45 := by
  unfold negB
  rw [Bool.and_eq_true, decide_eq_true_iff, beq_iff_eq]
  constructor
  · rintro ⟨h1, h2⟩
    refine ⟨h1, ?_⟩
    rw [ByteArray.toList_eq, ByteArray.data_extract, Array.toList_extract, List.extract_eq_take_drop] at h2
    unfold gd
    rw [Array.getD_eq_getD_getElem?, ← Array.getElem?_toList]
    cases hL : s.data.toList with
    | nil => rw [hL] at h2; simp at h2
    | cons c l => rw [hL] at h2; simp at h2; subst h2; rfl
  · rintro ⟨h1, h2⟩
    refine ⟨h1, ?_⟩
    rw [ByteArray.toList_eq, ByteArray.data_extract, Array.toList_extract, List.extract_eq_take_drop]
    unfold gd at h2
    rw [Array.getD_eq_getD_getElem?, ← Array.getElem?_toList] at h2
    cases hL : s.data.toList with
    | nil => rw [hL] at h2; simp at h2
    | cons c l =>
      rw [hL] at h2
      have : c = 45 := UInt8.toNat_inj.1 h2
      simp [this]
set_option maxHeartbeats 12800000 in
theorem rread_pos (s : ByteArray) (w : World) (hs : s.size ≤ 140737488355328) (hneg : negB s = false) (hp : 0 < s.size) : Calls Tryd.prog 33 #[.string s] w fun e w' => e = .returned (.tuple #[.int .i64 (readV s), .int .i64 (readE s)]) ∧ w = w' := by
  have hF := Lib.hid (formB_iff.trans (show formOk s ↔ 0 < (cutS s).size ∧ ¬ (1 < (cutS s).size ∧ gd (cutS s) 0 = 48) ∧ ¬ (negB s = true ∧ ((cutS s).toList == [48]) = true) ∧ allD (cutS s) (cutS s).size from Iff.rfl))
  have HNO : Hid (¬ formB s = true → readE s = 4 ∧ readV s = 0) := fun h => read_no (by simpa using h)
  have HBG : Hid (formB s = true → 9223372036854775807 < readN s → readE s = 3 ∧ readV s = 0) := fun h hb => by
    rcases Nat.lt_or_ge 9223372036854775808 (readN s) with h2 | h2
    · exact read_big h h2
    · exact read_over h hneg (by omega)
  have HGD : Hid (formB s = true → readN s ≤ 9223372036854775807 → readE s = 0 ∧ readV s = (readN s : Int)) := fun h => read_pos h hneg
  have HR := Lib.hid (show readN s = valN (cutS s) (cutS s).size from rfl)
  have hgs : ((gd s 0 : Int) == 45) = false := by
    rw [beq_eq_false_iff_ne]; intro h; have := neg_iff.2 ⟨hp, by omega⟩; rw [hneg] at this; cases this
  have hg0 := gd_eq hp
  have hp1 : (1 : Int) ≤ (s.size : Int) := by omega
  have hcut : cutS s = s := by unfold cutS; rw [hneg]; rfl
  rw [hcut] at hF HR
  clear hcut
  rw [hneg] at hF
  generalize hV : readV s = V at *
  generalize hE : readE s = E at *
  clear hV hE hneg
  by_cases h0 : s.size = 0
  · omega
  have he : s.toList.isEmpty = false := by rw [empty_size]; exact decide_eq_false h0
  have hpd : 0 < s.size := by omega
  have hg1 := gd_eq hpd
  by_cases h1 : 1 < s.size
  · have h1' : (1 : Int) < (s.size : Int) := by omega
    by_cases h2 : gd s 0 = 48
    · have HFIN : Hid (E = 4 ∧ V = 0) := HNO.out (fun h => (hF.out.1 h).2.1 ⟨h1, h2⟩)
      go_enter Tryd.func33, Tryd.ntmps33
      go_wp2
      have hfin := HFIN.out
      exact bodyPost_ret (v := .tuple #[.int .i64 0, .int .i64 4]) (by simp [results, Tryd.results33, go_sem]) rfl ⟨by rw [hfin.1, hfin.2], rfl⟩
    · have h2' : ((gd s 0 : Int) == 48) = false := by rw [beq_eq_false_iff_ne]; omega
      have h3 : (s.toList == [48]) = false := by
        rw [beq_eq_false_iff_ne]; intro h4; have h5 := congrArg List.length h4; rw [toList_len] at h5; simp at h5; omega
      have hokb : formB s = true ↔ allD s s.size := by
        rw [hF.out]; exact ⟨fun h => h.2.2.2, fun h => ⟨hpd, fun h' => h2 h'.2, fun h' => (by rw [h3] at h'; cases h'.2), h⟩⟩
      have hlead : 1 < s.size → gd s 0 ≠ 48 := fun _ => h2
      have HOKB := Lib.hid hokb
      have HLEAD := Lib.hid hlead
      clear hokb hlead
      go_enter Tryd.func33, Tryd.ntmps33
      go_wp2
      go_loopw [6] (fun i wr => ∃ k : Nat, k ≤ s.size ∧ i = .int .i64 k ∧ Hid (allD s k) ∧ wr = w) (fun i _ => s.size - (intOf i).toNat)
      case atStart => exact ⟨0, Nat.zero_le _, rfl, (fun j hj => by omega), by first | trivial | rfl⟩
      case round =>
        obtain ⟨k, hk, rfl, HD, rfl⟩ := hrel
        by_cases hlt : k < s.size
        · have hgk := gd_eq hlt
          by_cases hlo : gd s k < 48
          · have HFIN : Hid (E = 4 ∧ V = 0) := HNO.out (fun h => by have := (HOKB.out.1 h k hlt).1; omega)
            go_wp2
            have hfin := HFIN.out
            exact bodyPost_ret (v := .tuple #[.int .i64 0, .int .i64 4]) (by simp [results, Tryd.results33, go_sem]) rfl ⟨by rw [hfin.1, hfin.2], by first | trivial | rfl⟩
          · by_cases hhi : 57 < gd s k
            · have HFIN : Hid (E = 4 ∧ V = 0) := HNO.out (fun h => by have := (HOKB.out.1 h k hlt).2; omega)
              go_wp2
              have hfin := HFIN.out
              exact bodyPost_ret (v := .tuple #[.int .i64 0, .int .i64 4]) (by simp [results, Tryd.results33, go_sem]) rfl ⟨by rw [hfin.1, hfin.2], by first | trivial | rfl⟩
            · go_wp2
              exact ⟨⟨k + 1, by omega, by go_num, allD_succ HD.out (by omega) (by omega), by first | trivial | rfl⟩, by simp [intOf]; omega⟩
        · have hkd : k = s.size := by omega
          have hokd : allD s s.size := hkd ▸ HD.out
          have hlead := HLEAD.out
          have HGOOD := Lib.hid (HGD.out (HOKB.out.2 hokd))
          have HBIG := Lib.hid (HBG.out (HOKB.out.2 hokd))
          subst hkd
          have HOKD := Lib.hid hokd
          have hbey := beyond (M := mostP) hokd mostP_d.1 rfl hlead (by rw [mostP_v.1]; omega)
          rw [mostP_v.1] at hbey
          have HBEY := Lib.hid hbey
          clear hbey hokd hlead
          obtain ⟨wq, hwq⟩ : ∃ wq, wq = wr := ⟨_, rfl⟩
          subst hwq
          by_cases h19 : (19 : Int) < (s.size : Int)
          · have hbig : 9223372036854775807 < valN s s.size := HBEY.out.1 (by omega)
            have HFIN : Hid (E = 3 ∧ V = 0) := HBIG.out (by rw [HR.out]; exact hbig)
            clear hbig
            go_wp2
            have hfin := HFIN.out
            exact bodyPost_ret (v := .tuple #[.int .i64 0, .int .i64 3]) (by simp [results, Tryd.results33, go_sem]) rfl ⟨by rw [hfin.1, hfin.2], by first | trivial | rfl⟩
          · by_cases he19 : (s.size : Int) = 19
            · cases hb1 : Op.bytesLess s.toList [57, 50, 50, 51, 51, 55, 50, 48, 51, 54, 56, 53, 52, 55, 55, 53, 56, 48, 55]
              · cases hb2 : (s.toList == [57, 50, 50, 51, 51, 55, 50, 48, 51, 54, 56, 53, 52, 55, 55, 53, 56, 48, 55])
                · have hbig : 9223372036854775807 < valN s s.size := (HBEY.out.2.2 (by omega)).1 ⟨hb1, hb2⟩
                  have HFIN : Hid (E = 3 ∧ V = 0) := HBIG.out (by rw [HR.out]; exact hbig)
                  clear hbig
                  go_wp2
                  have hfin := HFIN.out
                  exact bodyPost_ret (v := .tuple #[.int .i64 0, .int .i64 3]) (by simp [results, Tryd.results33, go_sem]) rfl ⟨by rw [hfin.1, hfin.2], by first | trivial | rfl⟩
                · have hle19 : valN s s.size ≤ 9223372036854775807 := by
                    rcases Nat.lt_or_ge 9223372036854775807 (valN s s.size) with h | h
                    · have h' := ((HBEY.out.2.2 (by omega)).2 h).2
                      rw [show mostP = [57, 50, 50, 51, 51, 55, 50, 48, 51, 54, 56, 53, 52, 55, 55, 53, 56, 48, 55] from rfl, hb2] at h'; cases h'
                    · exact h
                  have HFIN : Hid (E = 0 ∧ V = (valN s s.size : Int)) := HGOOD.out (by rw [HR.out]; exact hle19) |> fun h => ⟨h.1, by rw [h.2, HR.out]⟩
                  have HLE := Lib.hid hle19
                  clear hle19
                  go_wp2
                  go_loopw [8, 9] (fun n i wr => ∃ k : Nat, k ≤ s.size ∧ i = .int .i64 k ∧ n = .int .i64 (valN s k : Int) ∧ wr = wq) (fun _ i _ => s.size - (intOf i).toNat)
                  case atStart => exact ⟨0, Nat.zero_le _, rfl, rfl, by first | trivial | rfl⟩
                  case round =>
                    obtain ⟨k, hk, rfl, rfl, rfl⟩ := hrel
                    by_cases hlt : k < s.size
                    · have hgk := gd_eq hlt
                      obtain ⟨hlo, hhi⟩ := HOKD.out k hlt
                      have hsucc : Hid (valN s (k + 1) = valN s k * 10 + (gd s k - 48)) := rfl
                      have hle : valN s (k + 1) ≤ valN s s.size := valN_le' s (by omega)
                      have hbd : (valN s k : Int) * 10 + ((gd s k : Int) - 48) ≤ 9223372036854775807 := by have := hsucc.out; have := HLE.out; omega
                      obtain ⟨q, hq⟩ : ∃ q, gd s k = q + 48 := ⟨gd s k - 48, by omega⟩
                      rw [hq] at hgk hlo hhi hsucc hbd
                      have hbd2 : (valN s k : Int) * 10 + (q : Int) ≤ 9223372036854775807 := by omega
                      clear hbd hle
                      go_wp2
                      refine ⟨⟨k + 1, by omega, by go_num, ?_, by first | trivial | rfl⟩, by simp [intOf]; omega⟩
                      have := hsucc.out
                      exact congrArg (Value.int IntKind.i64) (by omega)
                    · have hkd2 : k = s.size := by omega
                      subst hkd2
                      go_wp2
                      have hfin := HFIN.out
                      exact bodyPost_ret (v := .tuple #[.int .i64 (valN s s.size), .int .i64 0]) (by simp [results, Tryd.results33, go_sem]) rfl ⟨by rw [hfin.1, hfin.2], by first | trivial | rfl⟩
              · have hle19 : valN s s.size ≤ 9223372036854775807 := by
                  rcases Nat.lt_or_ge 9223372036854775807 (valN s s.size) with h | h
                  · have h' := ((HBEY.out.2.2 (by omega)).2 h).1
                    rw [show mostP = [57, 50, 50, 51, 51, 55, 50, 48, 51, 54, 56, 53, 52, 55, 55, 53, 56, 48, 55] from rfl, hb1] at h'; cases h'
                  · exact h
                have HFIN : Hid (E = 0 ∧ V = (valN s s.size : Int)) := HGOOD.out (by rw [HR.out]; exact hle19) |> fun h => ⟨h.1, by rw [h.2, HR.out]⟩
                have HLE := Lib.hid hle19
                clear hle19
                go_wp2
                go_loopw [8, 9] (fun n i wr => ∃ k : Nat, k ≤ s.size ∧ i = .int .i64 k ∧ n = .int .i64 (valN s k : Int) ∧ wr = wq) (fun _ i _ => s.size - (intOf i).toNat)
                case atStart => exact ⟨0, Nat.zero_le _, rfl, rfl, by first | trivial | rfl⟩
                case round =>
                  obtain ⟨k, hk, rfl, rfl, rfl⟩ := hrel
                  by_cases hlt : k < s.size
                  · have hgk := gd_eq hlt
                    obtain ⟨hlo, hhi⟩ := HOKD.out k hlt
                    have hsucc : Hid (valN s (k + 1) = valN s k * 10 + (gd s k - 48)) := rfl
                    have hle : valN s (k + 1) ≤ valN s s.size := valN_le' s (by omega)
                    have hbd : (valN s k : Int) * 10 + ((gd s k : Int) - 48) ≤ 9223372036854775807 := by have := hsucc.out; have := HLE.out; omega
                    obtain ⟨q, hq⟩ : ∃ q, gd s k = q + 48 := ⟨gd s k - 48, by omega⟩
                    rw [hq] at hgk hlo hhi hsucc hbd
                    have hbd2 : (valN s k : Int) * 10 + (q : Int) ≤ 9223372036854775807 := by omega
                    clear hbd hle
                    go_wp2
                    refine ⟨⟨k + 1, by omega, by go_num, ?_, by first | trivial | rfl⟩, by simp [intOf]; omega⟩
                    have := hsucc.out
                    exact congrArg (Value.int IntKind.i64) (by omega)
                  · have hkd2 : k = s.size := by omega
                    subst hkd2
                    go_wp2
                    have hfin := HFIN.out
                    exact bodyPost_ret (v := .tuple #[.int .i64 (valN s s.size), .int .i64 0]) (by simp [results, Tryd.results33, go_sem]) rfl ⟨by rw [hfin.1, hfin.2], by first | trivial | rfl⟩
            · have hle19 : valN s s.size ≤ 9223372036854775807 := HBEY.out.2.1 (by omega) (by decide)
              have HFIN : Hid (E = 0 ∧ V = (valN s s.size : Int)) := HGOOD.out (by rw [HR.out]; exact hle19) |> fun h => ⟨h.1, by rw [h.2, HR.out]⟩
              have HLE := Lib.hid hle19
              clear hle19
              go_wp2
              go_loopw [8, 9] (fun n i wr => ∃ k : Nat, k ≤ s.size ∧ i = .int .i64 k ∧ n = .int .i64 (valN s k : Int) ∧ wr = wq) (fun _ i _ => s.size - (intOf i).toNat)
              case atStart => exact ⟨0, Nat.zero_le _, rfl, rfl, by first | trivial | rfl⟩
              case round =>
                obtain ⟨k, hk, rfl, rfl, rfl⟩ := hrel
                by_cases hlt : k < s.size
                · have hgk := gd_eq hlt
                  obtain ⟨hlo, hhi⟩ := HOKD.out k hlt
                  have hsucc : Hid (valN s (k + 1) = valN s k * 10 + (gd s k - 48)) := rfl
                  have hle : valN s (k + 1) ≤ valN s s.size := valN_le' s (by omega)
                  have hbd : (valN s k : Int) * 10 + ((gd s k : Int) - 48) ≤ 9223372036854775807 := by have := hsucc.out; have := HLE.out; omega
                  obtain ⟨q, hq⟩ : ∃ q, gd s k = q + 48 := ⟨gd s k - 48, by omega⟩
                  rw [hq] at hgk hlo hhi hsucc hbd
                  have hbd2 : (valN s k : Int) * 10 + (q : Int) ≤ 9223372036854775807 := by omega
                  clear hbd hle
                  go_wp2
                  refine ⟨⟨k + 1, by omega, by go_num, ?_, by first | trivial | rfl⟩, by simp [intOf]; omega⟩
                  have := hsucc.out
                  exact congrArg (Value.int IntKind.i64) (by omega)
                · have hkd2 : k = s.size := by omega
                  subst hkd2
                  go_wp2
                  have hfin := HFIN.out
                  exact bodyPost_ret (v := .tuple #[.int .i64 (valN s s.size), .int .i64 0]) (by simp [results, Tryd.results33, go_sem]) rfl ⟨by rw [hfin.1, hfin.2], by first | trivial | rfl⟩
  · have h1' : ¬ (1 : Int) < (s.size : Int) := by omega
    have hlead : 1 < s.size → gd s 0 ≠ 48 := fun h => absurd h h1
    have hokb : formB s = true ↔ allD s s.size := by
      rw [hF.out]; exact ⟨fun h => h.2.2.2, fun h => ⟨hpd, fun h' => h1 h'.1, fun h' => (by cases h'.1), h⟩⟩
    have HOKB := Lib.hid hokb
    have HLEAD := Lib.hid hlead
    clear hokb hlead
    go_enter Tryd.func33, Tryd.ntmps33
    go_wp2
    go_loopw [6] (fun i wr => ∃ k : Nat, k ≤ s.size ∧ i = .int .i64 k ∧ Hid (allD s k) ∧ wr = w) (fun i _ => s.size - (intOf i).toNat)
    case atStart => exact ⟨0, Nat.zero_le _, rfl, (fun j hj => by omega), by first | trivial | rfl⟩
    case round =>
      obtain ⟨k, hk, rfl, HD, rfl⟩ := hrel
      by_cases hlt : k < s.size
      · have hgk := gd_eq hlt
        by_cases hlo : gd s k < 48
        · have HFIN : Hid (E = 4 ∧ V = 0) := HNO.out (fun h => by have := (HOKB.out.1 h k hlt).1; omega)
          go_wp2
          have hfin := HFIN.out
          exact bodyPost_ret (v := .tuple #[.int .i64 0, .int .i64 4]) (by simp [results, Tryd.results33, go_sem]) rfl ⟨by rw [hfin.1, hfin.2], by first | trivial | rfl⟩
        · by_cases hhi : 57 < gd s k
          · have HFIN : Hid (E = 4 ∧ V = 0) := HNO.out (fun h => by have := (HOKB.out.1 h k hlt).2; omega)
            go_wp2
            have hfin := HFIN.out
            exact bodyPost_ret (v := .tuple #[.int .i64 0, .int .i64 4]) (by simp [results, Tryd.results33, go_sem]) rfl ⟨by rw [hfin.1, hfin.2], by first | trivial | rfl⟩
          · go_wp2
            exact ⟨⟨k + 1, by omega, by go_num, allD_succ HD.out (by omega) (by omega), by first | trivial | rfl⟩, by simp [intOf]; omega⟩
      · have hkd : k = s.size := by omega
        have hokd : allD s s.size := hkd ▸ HD.out
        have hlead := HLEAD.out
        have HGOOD := Lib.hid (HGD.out (HOKB.out.2 hokd))
        have HBIG := Lib.hid (HBG.out (HOKB.out.2 hokd))
        subst hkd
        have HOKD := Lib.hid hokd
        have hbey := beyond (M := mostP) hokd mostP_d.1 rfl hlead (by rw [mostP_v.1]; omega)
        rw [mostP_v.1] at hbey
        have HBEY := Lib.hid hbey
        clear hbey hokd hlead
        obtain ⟨wq, hwq⟩ : ∃ wq, wq = wr := ⟨_, rfl⟩
        subst hwq
        have h19 : ¬ (19 : Int) < (s.size : Int) := by omega
        have he19 : ¬ (s.size : Int) = 19 := by omega
        have hle19 : valN s s.size ≤ 9223372036854775807 := HBEY.out.2.1 (by omega) (by decide)
        have HFIN : Hid (E = 0 ∧ V = (valN s s.size : Int)) := HGOOD.out (by rw [HR.out]; exact hle19) |> fun h => ⟨h.1, by rw [h.2, HR.out]⟩
        have HLE := Lib.hid hle19
        clear hle19
        go_wp2
        go_loopw [8, 9] (fun n i wr => ∃ k : Nat, k ≤ s.size ∧ i = .int .i64 k ∧ n = .int .i64 (valN s k : Int) ∧ wr = wq) (fun _ i _ => s.size - (intOf i).toNat)
        case atStart => exact ⟨0, Nat.zero_le _, rfl, rfl, by first | trivial | rfl⟩
        case round =>
          obtain ⟨k, hk, rfl, rfl, rfl⟩ := hrel
          by_cases hlt : k < s.size
          · have hgk := gd_eq hlt
            obtain ⟨hlo, hhi⟩ := HOKD.out k hlt
            have hsucc : Hid (valN s (k + 1) = valN s k * 10 + (gd s k - 48)) := rfl
            have hle : valN s (k + 1) ≤ valN s s.size := valN_le' s (by omega)
            have hbd : (valN s k : Int) * 10 + ((gd s k : Int) - 48) ≤ 9223372036854775807 := by have := hsucc.out; have := HLE.out; omega
            obtain ⟨q, hq⟩ : ∃ q, gd s k = q + 48 := ⟨gd s k - 48, by omega⟩
            rw [hq] at hgk hlo hhi hsucc hbd
            have hbd2 : (valN s k : Int) * 10 + (q : Int) ≤ 9223372036854775807 := by omega
            clear hbd hle
            go_wp2
            refine ⟨⟨k + 1, by omega, by go_num, ?_, by first | trivial | rfl⟩, by simp [intOf]; omega⟩
            have := hsucc.out
            exact congrArg (Value.int IntKind.i64) (by omega)
          · have hkd2 : k = s.size := by omega
            subst hkd2
            go_wp2
            have hfin := HFIN.out
            exact bodyPost_ret (v := .tuple #[.int .i64 (valN s s.size), .int .i64 0]) (by simp [results, Tryd.results33, go_sem]) rfl ⟨by rw [hfin.1, hfin.2], by first | trivial | rfl⟩
set_option maxHeartbeats 12800000 in
theorem rread_neg (s : ByteArray) (w : World) (hs : s.size ≤ 140737488355328) (hneg : negB s = true) (hp : 0 < s.size) : Calls Tryd.prog 33 #[.string s] w fun e w' => e = .returned (.tuple #[.int .i64 (readV s), .int .i64 (readE s)]) ∧ w = w' := by
  have hF := Lib.hid (formB_iff.trans (show formOk s ↔ 0 < (cutS s).size ∧ ¬ (1 < (cutS s).size ∧ gd (cutS s) 0 = 48) ∧ ¬ (negB s = true ∧ ((cutS s).toList == [48]) = true) ∧ allD (cutS s) (cutS s).size from Iff.rfl))
  have HNO : Hid (¬ formB s = true → readE s = 4 ∧ readV s = 0) := fun h => read_no (by simpa using h)
  have HBG : Hid (formB s = true → 9223372036854775808 < readN s → readE s = 3 ∧ readV s = 0) := fun h => read_big h
  have HGD : Hid (formB s = true → readN s ≤ 9223372036854775808 → readE s = 0 ∧ readV s = -(readN s : Int)) := fun h => read_neg h hneg
  have HR := Lib.hid (show readN s = valN (cutS s) (cutS s).size from rfl)
  have hgs : ((gd s 0 : Int) == 45) = true := by
    have := (neg_iff.1 hneg).2; rw [this]; rfl
  have hg0 := gd_eq hp
  have hp1 : (1 : Int) ≤ (s.size : Int) := by omega
  have hds : (cutS s).size ≤ 140737488355328 := by
    unfold cutS; rw [if_pos hneg, ByteArray.size_extract]; omega
  have hd : s.extract 1 s.size = cutS s := by unfold cutS; rw [if_pos hneg]
  generalize cutS s = d at *
  rw [hneg] at hF
  generalize hV : readV s = V at *
  generalize hE : readE s = E at *
  clear hV hE hneg
  by_cases h0 : d.size = 0
  · have he : d.toList.isEmpty = true := by rw [empty_size]; exact decide_eq_true h0
    have HFIN : Hid (E = 4 ∧ V = 0) := HNO.out (fun h => by have := (hF.out.1 h).1; omega)
    go_enter Tryd.func33, Tryd.ntmps33
    go_wp2
    have hfin := HFIN.out
    exact bodyPost_ret (v := .tuple #[.int .i64 0, .int .i64 4]) (by simp [results, Tryd.results33, go_sem]) rfl ⟨by rw [hfin.1, hfin.2], rfl⟩
  have he : d.toList.isEmpty = false := by rw [empty_size]; exact decide_eq_false h0
  have hpd : 0 < d.size := by omega
  have hg1 := gd_eq hpd
  by_cases h1 : 1 < d.size
  · have h1' : (1 : Int) < (d.size : Int) := by omega
    by_cases h2 : gd d 0 = 48
    · have HFIN : Hid (E = 4 ∧ V = 0) := HNO.out (fun h => (hF.out.1 h).2.1 ⟨h1, h2⟩)
      go_enter Tryd.func33, Tryd.ntmps33
      go_wp2
      have hfin := HFIN.out
      exact bodyPost_ret (v := .tuple #[.int .i64 0, .int .i64 4]) (by simp [results, Tryd.results33, go_sem]) rfl ⟨by rw [hfin.1, hfin.2], rfl⟩
    · have h2' : ((gd d 0 : Int) == 48) = false := by rw [beq_eq_false_iff_ne]; omega
      have h3 : (d.toList == [48]) = false := by
        rw [beq_eq_false_iff_ne]; intro h4; have h5 := congrArg List.length h4; rw [toList_len] at h5; simp at h5; omega
      have hokb : formB s = true ↔ allD d d.size := by
        rw [hF.out]; exact ⟨fun h => h.2.2.2, fun h => ⟨hpd, fun h' => h2 h'.2, fun h' => (by rw [h3] at h'; cases h'.2), h⟩⟩
      have hlead : 1 < d.size → gd d 0 ≠ 48 := fun _ => h2
      have HOKB := Lib.hid hokb
      have HLEAD := Lib.hid hlead
      clear hokb hlead
      go_enter Tryd.func33, Tryd.ntmps33
      go_wp2
      go_loopw [6] (fun i wr => ∃ k : Nat, k ≤ d.size ∧ i = .int .i64 k ∧ Hid (allD d k) ∧ wr = w) (fun i _ => d.size - (intOf i).toNat)
      case atStart => exact ⟨0, Nat.zero_le _, rfl, (fun j hj => by omega), by first | trivial | rfl⟩
      case round =>
        obtain ⟨k, hk, rfl, HD, rfl⟩ := hrel
        by_cases hlt : k < d.size
        · have hgk := gd_eq hlt
          by_cases hlo : gd d k < 48
          · have HFIN : Hid (E = 4 ∧ V = 0) := HNO.out (fun h => by have := (HOKB.out.1 h k hlt).1; omega)
            go_wp2
            have hfin := HFIN.out
            exact bodyPost_ret (v := .tuple #[.int .i64 0, .int .i64 4]) (by simp [results, Tryd.results33, go_sem]) rfl ⟨by rw [hfin.1, hfin.2], by first | trivial | rfl⟩
          · by_cases hhi : 57 < gd d k
            · have HFIN : Hid (E = 4 ∧ V = 0) := HNO.out (fun h => by have := (HOKB.out.1 h k hlt).2; omega)
              go_wp2
              have hfin := HFIN.out
              exact bodyPost_ret (v := .tuple #[.int .i64 0, .int .i64 4]) (by simp [results, Tryd.results33, go_sem]) rfl ⟨by rw [hfin.1, hfin.2], by first | trivial | rfl⟩
            · go_wp2
              exact ⟨⟨k + 1, by omega, by go_num, allD_succ HD.out (by omega) (by omega), by first | trivial | rfl⟩, by simp [intOf]; omega⟩
        · have hkd : k = d.size := by omega
          have hokd : allD d d.size := hkd ▸ HD.out
          have hlead := HLEAD.out
          have HGOOD := Lib.hid (HGD.out (HOKB.out.2 hokd))
          have HBIG := Lib.hid (HBG.out (HOKB.out.2 hokd))
          subst hkd
          have HOKD := Lib.hid hokd
          have hbey := beyond (M := mostM) hokd mostP_d.2 rfl hlead (by rw [mostP_v.2]; omega)
          rw [mostP_v.2] at hbey
          have HBEY := Lib.hid hbey
          clear hbey hokd hlead
          obtain ⟨wq, hwq⟩ : ∃ wq, wq = wr := ⟨_, rfl⟩
          subst hwq
          by_cases h19 : (19 : Int) < (d.size : Int)
          · have hbig : 9223372036854775808 < valN d d.size := HBEY.out.1 (by omega)
            have HFIN : Hid (E = 3 ∧ V = 0) := HBIG.out (by rw [HR.out]; exact hbig)
            clear hbig
            go_wp2
            have hfin := HFIN.out
            exact bodyPost_ret (v := .tuple #[.int .i64 0, .int .i64 3]) (by simp [results, Tryd.results33, go_sem]) rfl ⟨by rw [hfin.1, hfin.2], by first | trivial | rfl⟩
          · by_cases he19 : (d.size : Int) = 19
            · cases hb1 : Op.bytesLess d.toList [57, 50, 50, 51, 51, 55, 50, 48, 51, 54, 56, 53, 52, 55, 55, 53, 56, 48, 56]
              · cases hb2 : (d.toList == [57, 50, 50, 51, 51, 55, 50, 48, 51, 54, 56, 53, 52, 55, 55, 53, 56, 48, 56])
                · have hbig : 9223372036854775808 < valN d d.size := (HBEY.out.2.2 (by omega)).1 ⟨hb1, hb2⟩
                  have HFIN : Hid (E = 3 ∧ V = 0) := HBIG.out (by rw [HR.out]; exact hbig)
                  clear hbig
                  go_wp2
                  have hfin := HFIN.out
                  exact bodyPost_ret (v := .tuple #[.int .i64 0, .int .i64 3]) (by simp [results, Tryd.results33, go_sem]) rfl ⟨by rw [hfin.1, hfin.2], by first | trivial | rfl⟩
                · have hle19 : valN d d.size ≤ 9223372036854775808 := by
                    rcases Nat.lt_or_ge 9223372036854775808 (valN d d.size) with h | h
                    · have h' := ((HBEY.out.2.2 (by omega)).2 h).2
                      rw [show mostM = [57, 50, 50, 51, 51, 55, 50, 48, 51, 54, 56, 53, 52, 55, 55, 53, 56, 48, 56] from rfl, hb2] at h'; cases h'
                    · exact h
                  have HFIN : Hid (E = 0 ∧ V = -(valN d d.size : Int)) := HGOOD.out (by rw [HR.out]; exact hle19) |> fun h => ⟨h.1, by rw [h.2, HR.out]⟩
                  have HLE := Lib.hid hle19
                  clear hle19
                  go_wp2
                  go_loopw [8, 9] (fun n i wr => ∃ k : Nat, k ≤ d.size ∧ i = .int .i64 k ∧ n = .int .i64 (-(valN d k : Int)) ∧ wr = wq) (fun _ i _ => d.size - (intOf i).toNat)
                  case atStart => exact ⟨0, Nat.zero_le _, rfl, rfl, by first | trivial | rfl⟩
                  case round =>
                    obtain ⟨k, hk, rfl, rfl, rfl⟩ := hrel
                    by_cases hlt : k < d.size
                    · have hgk := gd_eq hlt
                      obtain ⟨hlo, hhi⟩ := HOKD.out k hlt
                      have hsucc : Hid (valN d (k + 1) = valN d k * 10 + (gd d k - 48)) := rfl
                      have hle : valN d (k + 1) ≤ valN d d.size := valN_le' d (by omega)
                      have hbd : (valN d k : Int) * 10 + ((gd d k : Int) - 48) ≤ 9223372036854775808 := by have := hsucc.out; have := HLE.out; omega
                      obtain ⟨q, hq⟩ : ∃ q, gd d k = q + 48 := ⟨gd d k - 48, by omega⟩
                      rw [hq] at hgk hlo hhi hsucc hbd
                      have hbd2 : (valN d k : Int) * 10 + (q : Int) ≤ 9223372036854775808 := by omega
                      clear hbd hle
                      go_wp2
                      refine ⟨⟨k + 1, by omega, by go_num, ?_, by first | trivial | rfl⟩, by simp [intOf]; omega⟩
                      have := hsucc.out
                      exact congrArg (Value.int IntKind.i64) (by omega)
                    · have hkd2 : k = d.size := by omega
                      subst hkd2
                      go_wp2
                      have hfin := HFIN.out
                      exact bodyPost_ret (v := .tuple #[.int .i64 (-(valN d d.size : Int)), .int .i64 0]) (by simp [results, Tryd.results33, go_sem]) rfl ⟨by rw [hfin.1, hfin.2], by first | trivial | rfl⟩
              · have hle19 : valN d d.size ≤ 9223372036854775808 := by
                  rcases Nat.lt_or_ge 9223372036854775808 (valN d d.size) with h | h
                  · have h' := ((HBEY.out.2.2 (by omega)).2 h).1
                    rw [show mostM = [57, 50, 50, 51, 51, 55, 50, 48, 51, 54, 56, 53, 52, 55, 55, 53, 56, 48, 56] from rfl, hb1] at h'; cases h'
                  · exact h
                have HFIN : Hid (E = 0 ∧ V = -(valN d d.size : Int)) := HGOOD.out (by rw [HR.out]; exact hle19) |> fun h => ⟨h.1, by rw [h.2, HR.out]⟩
                have HLE := Lib.hid hle19
                clear hle19
                go_wp2
                go_loopw [8, 9] (fun n i wr => ∃ k : Nat, k ≤ d.size ∧ i = .int .i64 k ∧ n = .int .i64 (-(valN d k : Int)) ∧ wr = wq) (fun _ i _ => d.size - (intOf i).toNat)
                case atStart => exact ⟨0, Nat.zero_le _, rfl, rfl, by first | trivial | rfl⟩
                case round =>
                  obtain ⟨k, hk, rfl, rfl, rfl⟩ := hrel
                  by_cases hlt : k < d.size
                  · have hgk := gd_eq hlt
                    obtain ⟨hlo, hhi⟩ := HOKD.out k hlt
                    have hsucc : Hid (valN d (k + 1) = valN d k * 10 + (gd d k - 48)) := rfl
                    have hle : valN d (k + 1) ≤ valN d d.size := valN_le' d (by omega)
                    have hbd : (valN d k : Int) * 10 + ((gd d k : Int) - 48) ≤ 9223372036854775808 := by have := hsucc.out; have := HLE.out; omega
                    obtain ⟨q, hq⟩ : ∃ q, gd d k = q + 48 := ⟨gd d k - 48, by omega⟩
                    rw [hq] at hgk hlo hhi hsucc hbd
                    have hbd2 : (valN d k : Int) * 10 + (q : Int) ≤ 9223372036854775808 := by omega
                    clear hbd hle
                    go_wp2
                    refine ⟨⟨k + 1, by omega, by go_num, ?_, by first | trivial | rfl⟩, by simp [intOf]; omega⟩
                    have := hsucc.out
                    exact congrArg (Value.int IntKind.i64) (by omega)
                  · have hkd2 : k = d.size := by omega
                    subst hkd2
                    go_wp2
                    have hfin := HFIN.out
                    exact bodyPost_ret (v := .tuple #[.int .i64 (-(valN d d.size : Int)), .int .i64 0]) (by simp [results, Tryd.results33, go_sem]) rfl ⟨by rw [hfin.1, hfin.2], by first | trivial | rfl⟩
            · have hle19 : valN d d.size ≤ 9223372036854775808 := HBEY.out.2.1 (by omega) (by decide)
              have HFIN : Hid (E = 0 ∧ V = -(valN d d.size : Int)) := HGOOD.out (by rw [HR.out]; exact hle19) |> fun h => ⟨h.1, by rw [h.2, HR.out]⟩
              have HLE := Lib.hid hle19
              clear hle19
              go_wp2
              go_loopw [8, 9] (fun n i wr => ∃ k : Nat, k ≤ d.size ∧ i = .int .i64 k ∧ n = .int .i64 (-(valN d k : Int)) ∧ wr = wq) (fun _ i _ => d.size - (intOf i).toNat)
              case atStart => exact ⟨0, Nat.zero_le _, rfl, rfl, by first | trivial | rfl⟩
              case round =>
                obtain ⟨k, hk, rfl, rfl, rfl⟩ := hrel
                by_cases hlt : k < d.size
                · have hgk := gd_eq hlt
                  obtain ⟨hlo, hhi⟩ := HOKD.out k hlt
                  have hsucc : Hid (valN d (k + 1) = valN d k * 10 + (gd d k - 48)) := rfl
                  have hle : valN d (k + 1) ≤ valN d d.size := valN_le' d (by omega)
                  have hbd : (valN d k : Int) * 10 + ((gd d k : Int) - 48) ≤ 9223372036854775808 := by have := hsucc.out; have := HLE.out; omega
                  obtain ⟨q, hq⟩ : ∃ q, gd d k = q + 48 := ⟨gd d k - 48, by omega⟩
                  rw [hq] at hgk hlo hhi hsucc hbd
                  have hbd2 : (valN d k : Int) * 10 + (q : Int) ≤ 9223372036854775808 := by omega
                  clear hbd hle
                  go_wp2
                  refine ⟨⟨k + 1, by omega, by go_num, ?_, by first | trivial | rfl⟩, by simp [intOf]; omega⟩
                  have := hsucc.out
                  exact congrArg (Value.int IntKind.i64) (by omega)
                · have hkd2 : k = d.size := by omega
                  subst hkd2
                  go_wp2
                  have hfin := HFIN.out
                  exact bodyPost_ret (v := .tuple #[.int .i64 (-(valN d d.size : Int)), .int .i64 0]) (by simp [results, Tryd.results33, go_sem]) rfl ⟨by rw [hfin.1, hfin.2], by first | trivial | rfl⟩
  · have h1' : ¬ (1 : Int) < (d.size : Int) := by omega
    have hlead : 1 < d.size → gd d 0 ≠ 48 := fun h => absurd h h1
    cases h3 : (d.toList == [48])
    · have hokb : formB s = true ↔ allD d d.size := by
        rw [hF.out]; exact ⟨fun h => h.2.2.2, fun h => ⟨hpd, fun h' => h1 h'.1, fun h' => (by rw [h3] at h'; cases h'.2), h⟩⟩
      have HOKB := Lib.hid hokb
      have HLEAD := Lib.hid hlead
      clear hokb hlead
      go_enter Tryd.func33, Tryd.ntmps33
      go_wp2
      go_loopw [6] (fun i wr => ∃ k : Nat, k ≤ d.size ∧ i = .int .i64 k ∧ Hid (allD d k) ∧ wr = w) (fun i _ => d.size - (intOf i).toNat)
      case atStart => exact ⟨0, Nat.zero_le _, rfl, (fun j hj => by omega), by first | trivial | rfl⟩
      case round =>
        obtain ⟨k, hk, rfl, HD, rfl⟩ := hrel
        by_cases hlt : k < d.size
        · have hgk := gd_eq hlt
          by_cases hlo : gd d k < 48
          · have HFIN : Hid (E = 4 ∧ V = 0) := HNO.out (fun h => by have := (HOKB.out.1 h k hlt).1; omega)
            go_wp2
            have hfin := HFIN.out
            exact bodyPost_ret (v := .tuple #[.int .i64 0, .int .i64 4]) (by simp [results, Tryd.results33, go_sem]) rfl ⟨by rw [hfin.1, hfin.2], by first | trivial | rfl⟩
          · by_cases hhi : 57 < gd d k
            · have HFIN : Hid (E = 4 ∧ V = 0) := HNO.out (fun h => by have := (HOKB.out.1 h k hlt).2; omega)
              go_wp2
              have hfin := HFIN.out
              exact bodyPost_ret (v := .tuple #[.int .i64 0, .int .i64 4]) (by simp [results, Tryd.results33, go_sem]) rfl ⟨by rw [hfin.1, hfin.2], by first | trivial | rfl⟩
            · go_wp2
              exact ⟨⟨k + 1, by omega, by go_num, allD_succ HD.out (by omega) (by omega), by first | trivial | rfl⟩, by simp [intOf]; omega⟩
        · have hkd : k = d.size := by omega
          have hokd : allD d d.size := hkd ▸ HD.out
          have hlead := HLEAD.out
          have HGOOD := Lib.hid (HGD.out (HOKB.out.2 hokd))
          have HBIG := Lib.hid (HBG.out (HOKB.out.2 hokd))
          subst hkd
          have HOKD := Lib.hid hokd
          have hbey := beyond (M := mostM) hokd mostP_d.2 rfl hlead (by rw [mostP_v.2]; omega)
          rw [mostP_v.2] at hbey
          have HBEY := Lib.hid hbey
          clear hbey hokd hlead
          obtain ⟨wq, hwq⟩ : ∃ wq, wq = wr := ⟨_, rfl⟩
          subst hwq
          have h19 : ¬ (19 : Int) < (d.size : Int) := by omega
          have he19 : ¬ (d.size : Int) = 19 := by omega
          have hle19 : valN d d.size ≤ 9223372036854775808 := HBEY.out.2.1 (by omega) (by decide)
          have HFIN : Hid (E = 0 ∧ V = -(valN d d.size : Int)) := HGOOD.out (by rw [HR.out]; exact hle19) |> fun h => ⟨h.1, by rw [h.2, HR.out]⟩
          have HLE := Lib.hid hle19
          clear hle19
          go_wp2
          go_loopw [8, 9] (fun n i wr => ∃ k : Nat, k ≤ d.size ∧ i = .int .i64 k ∧ n = .int .i64 (-(valN d k : Int)) ∧ wr = wq) (fun _ i _ => d.size - (intOf i).toNat)
          case atStart => exact ⟨0, Nat.zero_le _, rfl, rfl, by first | trivial | rfl⟩
          case round =>
            obtain ⟨k, hk, rfl, rfl, rfl⟩ := hrel
            by_cases hlt : k < d.size
            · have hgk := gd_eq hlt
              obtain ⟨hlo, hhi⟩ := HOKD.out k hlt
              have hsucc : Hid (valN d (k + 1) = valN d k * 10 + (gd d k - 48)) := rfl
              have hle : valN d (k + 1) ≤ valN d d.size := valN_le' d (by omega)
              have hbd : (valN d k : Int) * 10 + ((gd d k : Int) - 48) ≤ 9223372036854775808 := by have := hsucc.out; have := HLE.out; omega
              obtain ⟨q, hq⟩ : ∃ q, gd d k = q + 48 := ⟨gd d k - 48, by omega⟩
              rw [hq] at hgk hlo hhi hsucc hbd
              have hbd2 : (valN d k : Int) * 10 + (q : Int) ≤ 9223372036854775808 := by omega
              clear hbd hle
              go_wp2
              refine ⟨⟨k + 1, by omega, by go_num, ?_, by first | trivial | rfl⟩, by simp [intOf]; omega⟩
              have := hsucc.out
              exact congrArg (Value.int IntKind.i64) (by omega)
            · have hkd2 : k = d.size := by omega
              subst hkd2
              go_wp2
              have hfin := HFIN.out
              exact bodyPost_ret (v := .tuple #[.int .i64 (-(valN d d.size : Int)), .int .i64 0]) (by simp [results, Tryd.results33, go_sem]) rfl ⟨by rw [hfin.1, hfin.2], by first | trivial | rfl⟩
    · have HFIN : Hid (E = 4 ∧ V = 0) := HNO.out (fun h => (hF.out.1 h).2.2.1 ⟨rfl, h3⟩)
      go_enter Tryd.func33, Tryd.ntmps33
      go_wp2
      have hfin := HFIN.out
      exact bodyPost_ret (v := .tuple #[.int .i64 0, .int .i64 4]) (by simp [results, Tryd.results33, go_sem]) rfl ⟨by rw [hfin.1, hfin.2], rfl⟩
end Go.Proofs.YtlmmmibnnbceeaaDoor
