/-
  The bytes that digits say (chapter 1): the reference.
-/
import Derived.Test.YtaddbljdheafaaaDoorCountHex4
import Derived.Test.YtaddbljdheafaaaDoorDraw
namespace Go.Proofs.YtaddbljdheafaaaDoor
open Go.RowKit
set_option linter.unusedVariables false
set_option linter.unusedSimpArgs false

theorem rvalue_of {c : Nat} {v : Int} (hv : rvaZ c = v) (w : World) (h : c < 256) : Calls Tryd.prog 61 #[.int .u8 c] w fun e w' => e = .returned (.int .i64 v) ∧ w = w' := hv ▸ rvalue_any c w h
theorem rva_some {c a : Nat} (h : vaN c = some a) : rvaZ c = a := by unfold rvaZ; rw [h]
theorem rva_none {c : Nat} (h : vaN c = none) : rvaZ c = -1 := by unfold rvaZ; rw [h]
theorem more_byte (l : List UInt8) (c : Nat) : ByteArray.mk l.toArray ++ strOfNums [(c : Int)] = ⟨(l ++ [UInt8.ofNat c]).toArray⟩ := by
  apply ByteArray.ext
  simp [strOfNums]
set_option maxHeartbeats 3200000 in
set_option maxRecDepth 20000 in
theorem runhex_any (s : ByteArray) (w : World) (hs : s.size ≤ 140737488351232) : Calls Tryd.prog 46 #[.string s] w fun e w' => e = .returned (.tuple #[.string (unS s), .int .i64 (unE s)]) ∧ Below w.heap.size w w' := by
  rcases Nat.mod_two_eq_zero_or_one s.size with hpar | hpar
  · obtain ⟨n, hn⟩ : ∃ n, s.size = 2 * n := ⟨s.size / 2, by omega⟩
    have h2 : ((s.size : Int) % 2 != 0) = false := by rw [bne_eq_false_iff_eq]; omega
    have HN := Lib.hid hn
    clear hn hpar
    go_enter Tryd.func46, Tryd.ntmps46
    go_wp2
    clear h2
    go_loopw [4, 5] (fun v i wr => ∃ k : Nat, ∃ l : List UInt8, k ≤ n ∧ i = .int .i64 ((2 * k : Nat) : Int) ∧ v = .string ⟨l.toArray⟩ ∧ Hid (unL s k = some l) ∧ Hid (Below w.heap.size w wr)) (fun _ i _ => s.size - (intOf i).toNat)
    case atStart => exact ⟨0, [], Nat.zero_le _, rfl, rfl, rfl, Below.refl _ _⟩
    case round =>
      obtain ⟨k, l, hk, rfl, rfl, HL, HB⟩ := hrel
      have hll := unL_len s k l HL.out
      by_cases hlt : k < n
      · obtain ⟨j, hj⟩ : ∃ j, j = 2 * k := ⟨_, rfl⟩
        have HJ := Lib.hid hj
        rw [← hj]
        clear hj
        have hj1 : j + 1 < s.size := by have := HJ.out; have := HN.out; omega
        have hj0 : j < s.size := by omega
        have hg0 := gd_eq hj0
        obtain ⟨q, hq⟩ : ∃ q, q = j + 1 := ⟨_, rfl⟩
        have hjq : IntKind.i64.wrap ((j : Int) + 1) = (q : Int) := by rw [IntKind.wrap_i64]; omega
        have hj2 : q < s.size := by omega
        have hg1 := gd_eq hj2
        have hq0 : (0 : Int) ≤ (q : Int) := by omega
        have hq1 : (q : Int) < (s.size : Int) := by omega
        have HQ := Lib.hid hq
        have hi0 : (0 : Int) ≤ (j : Int) := by omega
        have hi1 : (j : Int) < (s.size : Int) := by omega
        rw [← hq] at hj1
        clear hq
        cases ha : vaN (gd s j) with
        | none =>
          have HFIN : Hid (unS s = ⟨#[]⟩ ∧ unE s = 4) := un_bad HN.out hlt (by unfold pairAt; rw [← HJ.out, ha])
          have V0 := Lib.hid (fun w => rvalue_of (rva_none ha) w (gd_lt _ _))
          have V1 := Lib.hid (fun w => rvalue_any (gd s q) w (gd_lt _ _))
          clear ha
          go_wp2
          refine wp_region_held_drew (S := (fun _ => True)) (by kernel_rfl) ?_ (fun hHeld => ?_)
          · trivial
          first | (refine take_w (i := 0) (d := (some 19)) (v := ?_) (by rfl) (by kernel_rfl) (by kernel_rfl) (by kernel_rfl) (fun _ _ _ h => h) (by rfl) ?_ (by assumption) ?_; rotate_left; (focus (intro o ho; simp only [List.getElem?_toArray, List.getElem?_cons_succ, List.getElem?_cons_zero, Option.some.injEq] at ho; subst ho; intro w hSw; (try dsimp only at hSw); go_simp; (try with_reducible rfl); done))) | (refine take_n (i := 0) (d := (some 19)) (by rfl) (by kernel_rfl) (by kernel_rfl) (by kernel_rfl) (fun _ _ _ h => h) (by rfl) (by assumption) ?_)
          try simp only [Act.put, List.setIfInBounds_toArray, List.set_cons_zero, List.set_cons_succ]
          first | (refine take_w (i := 1) (d := (some 20)) (v := ?_) (by rfl) (by kernel_rfl) (by kernel_rfl) (by kernel_rfl) (fun _ _ _ h => h) (by rfl) ?_ (by assumption) ?_; rotate_left; (focus (intro o ho; simp only [List.getElem?_toArray, List.getElem?_cons_succ, List.getElem?_cons_zero, Option.some.injEq] at ho; subst ho; intro w hSw; (try dsimp only at hSw); go_simp; (try with_reducible rfl); done))) | (refine take_n (i := 1) (d := (some 20)) (by rfl) (by kernel_rfl) (by kernel_rfl) (by kernel_rfl) (fun _ _ _ h => h) (by rfl) (by assumption) ?_)
          try simp only [Act.put, List.setIfInBounds_toArray, List.set_cons_zero, List.set_cons_succ]
          first | (refine take_w (i := 2) (d := (some 21)) (v := ?_) (by rfl) (by kernel_rfl) (by kernel_rfl) (by kernel_rfl) (fun _ _ _ h => h) (by rfl) ?_ (by assumption) ?_; rotate_left; (focus (intro o ho; simp only [List.getElem?_toArray, List.getElem?_cons_succ, List.getElem?_cons_zero, Option.some.injEq] at ho; subst ho; intro w hSw; (try dsimp only at hSw); go_simp; (try with_reducible rfl); done))) | (refine take_n (i := 2) (d := (some 21)) (by rfl) (by kernel_rfl) (by kernel_rfl) (by kernel_rfl) (fun _ _ _ h => h) (by rfl) (by assumption) ?_)
          try simp only [Act.put, List.setIfInBounds_toArray, List.set_cons_zero, List.set_cons_succ]
          first | (refine take_w (i := 4) (d := (some 23)) (v := ?_) (by rfl) (by kernel_rfl) (by kernel_rfl) (by kernel_rfl) (fun _ _ _ h => h) (by rfl) ?_ (by assumption) ?_; rotate_left; (focus (intro o ho; simp only [List.getElem?_toArray, List.getElem?_cons_succ, List.getElem?_cons_zero, Option.some.injEq] at ho; subst ho; intro w hSw; (try dsimp only at hSw); go_simp; (try with_reducible rfl); done))) | (refine take_n (i := 4) (d := (some 23)) (by rfl) (by kernel_rfl) (by kernel_rfl) (by kernel_rfl) (fun _ _ _ h => h) (by rfl) (by assumption) ?_)
          try simp only [Act.put, List.setIfInBounds_toArray, List.set_cons_zero, List.set_cons_succ]
          first | (refine take_w (i := 5) (d := (some 24)) (v := ?_) (by rfl) (by kernel_rfl) (by kernel_rfl) (by kernel_rfl) (fun _ _ _ h => h) (by rfl) ?_ (by assumption) ?_; rotate_left; (focus (intro o ho; simp only [List.getElem?_toArray, List.getElem?_cons_succ, List.getElem?_cons_zero, Option.some.injEq] at ho; subst ho; intro w hSw; (try dsimp only at hSw); go_simp; (try with_reducible rfl); done))) | (refine take_n (i := 5) (d := (some 24)) (by rfl) (by kernel_rfl) (by kernel_rfl) (by kernel_rfl) (fun _ _ _ h => h) (by rfl) (by assumption) ?_)
          try simp only [Act.put, List.setIfInBounds_toArray, List.set_cons_zero, List.set_cons_succ]
          first | (refine take_w (i := 6) (d := (some 25)) (v := ?_) (by rfl) (by kernel_rfl) (by kernel_rfl) (by kernel_rfl) (fun _ _ _ h => h) (by rfl) ?_ (by assumption) ?_; rotate_left; (focus (intro o ho; simp only [List.getElem?_toArray, List.getElem?_cons_succ, List.getElem?_cons_zero, Option.some.injEq] at ho; subst ho; intro w hSw; (try dsimp only at hSw); go_simp; (try with_reducible rfl); done))) | (refine take_n (i := 6) (d := (some 25)) (by rfl) (by kernel_rfl) (by kernel_rfl) (by kernel_rfl) (fun _ _ _ h => h) (by rfl) (by assumption) ?_)
          try simp only [Act.put, List.setIfInBounds_toArray, List.set_cons_zero, List.set_cons_succ]
          first | (refine take_w (i := 7) (d := (some 26)) (v := ?_) (by rfl) (by kernel_rfl) (by kernel_rfl) (by kernel_rfl) (fun _ _ _ h => h) (by rfl) ?_ (by assumption) ?_; rotate_left; (focus (intro o ho; simp only [List.getElem?_toArray, List.getElem?_cons_succ, List.getElem?_cons_zero, Option.some.injEq] at ho; subst ho; intro w hSw; (try dsimp only at hSw); go_simp; (try with_reducible rfl); done))) | (refine take_n (i := 7) (d := (some 26)) (by rfl) (by kernel_rfl) (by kernel_rfl) (by kernel_rfl) (fun _ _ _ h => h) (by rfl) (by assumption) ?_)
          try simp only [Act.put, List.setIfInBounds_toArray, List.set_cons_zero, List.set_cons_succ]
          refine call_next (i := 3) (by kernel_rfl) (by rfl) ?_
          intro o ho K hK
          simp only [List.getElem?_toArray, List.getElem?_cons_succ, List.getElem?_cons_zero, Option.some.injEq] at ho
          subst ho
          first | (fail; refine hK.out _ _ ?_ (fun hHeld => ?_)) | (go_simp; first | (with_reducible refine hK.out _ _ ?_ (fun hHeld => ?_)) | ((go_at_call 61; first | ((with_reducible refine (V0.out _).mono ?_); rintro e wx ⟨rfl, rfl⟩) | ((with_reducible refine (V1.out _).mono ?_); rintro e wx ⟨rfl, rfl⟩)); refine hK.out _ _ ?_ (fun hHeld => ?_)))
          · trivial
          clear hK K
          try simp only [Act.put, List.setIfInBounds_toArray, List.set_cons_zero, List.set_cons_succ]
          refine call_next (i := 8) (by kernel_rfl) (by rfl) ?_
          intro o ho K hK
          simp only [List.getElem?_toArray, List.getElem?_cons_succ, List.getElem?_cons_zero, Option.some.injEq] at ho
          subst ho
          first | (fail; refine hK.out _ _ ?_ (fun hHeld => ?_)) | (go_simp; first | (with_reducible refine hK.out _ _ ?_ (fun hHeld => ?_)) | ((go_at_call 61; first | ((with_reducible refine (V0.out _).mono ?_); rintro e wx ⟨rfl, rfl⟩) | ((with_reducible refine (V1.out _).mono ?_); rintro e wx ⟨rfl, rfl⟩)); refine hK.out _ _ ?_ (fun hHeld => ?_)))
          · trivial
          clear hK K
          try simp only [Act.put, List.setIfInBounds_toArray, List.set_cons_zero, List.set_cons_succ]
          first | (refine take_w (i := 9) (d := (some 6)) (v := ?_) (by rfl) (by kernel_rfl) (by kernel_rfl) (by kernel_rfl) (fun _ _ _ h => h) (by rfl) ?_ (by assumption) ?_; rotate_left; (focus (intro o ho; simp only [List.getElem?_toArray, List.getElem?_cons_succ, List.getElem?_cons_zero, Option.some.injEq] at ho; subst ho; intro w hSw; (try dsimp only at hSw); go_simp; (try with_reducible rfl); done))) | (refine take_n (i := 9) (d := (some 6)) (by rfl) (by kernel_rfl) (by kernel_rfl) (by kernel_rfl) (fun _ _ _ h => h) (by rfl) (by assumption) ?_)
          try simp only [Act.put, List.setIfInBounds_toArray, List.set_cons_zero, List.set_cons_succ]
          first | (refine take_w (i := 10) (d := (some 7)) (v := ?_) (by rfl) (by kernel_rfl) (by kernel_rfl) (by kernel_rfl) (fun _ _ _ h => h) (by rfl) ?_ (by assumption) ?_; rotate_left; (focus (intro o ho; simp only [List.getElem?_toArray, List.getElem?_cons_succ, List.getElem?_cons_zero, Option.some.injEq] at ho; subst ho; intro w hSw; (try dsimp only at hSw); go_simp; (try with_reducible rfl); done))) | (refine take_n (i := 10) (d := (some 7)) (by rfl) (by kernel_rfl) (by kernel_rfl) (by kernel_rfl) (fun _ _ _ h => h) (by rfl) (by assumption) ?_)
          try simp only [Act.put, List.setIfInBounds_toArray, List.set_cons_zero, List.set_cons_succ]
          refine wpAnyH_done (by kernel_rfl) ?_ _
          go_wp2
          have hfin := HFIN.out
          exact bodyPost_ret (v := .tuple #[.string ⟨#[]⟩, .int .i64 4]) (by simp [results, Tryd.results46, go_sem]) rfl ⟨by rw [hfin.1, hfin.2], HB.out.drew⟩
        | some a =>
          have ha16 := (va_some ha).1
          cases hb : vaN (gd s q) with
          | none =>
            have HFIN : Hid (unS s = ⟨#[]⟩ ∧ unE s = 4) := un_bad HN.out hlt (by unfold pairAt; rw [← HJ.out, ← HQ.out, ha, hb])
            have V0 := Lib.hid (fun w => rvalue_of (rva_some ha) w (gd_lt _ _))
            have V1 := Lib.hid (fun w => rvalue_of (rva_none hb) w (gd_lt _ _))
            have hna : decide ((a : Int) < 0) = false := decide_eq_false (by omega)
            clear ha hb
            go_wp2
            refine wp_region_held_drew (S := (fun _ => True)) (by kernel_rfl) ?_ (fun hHeld => ?_)
            · trivial
            first | (refine take_w (i := 0) (d := (some 19)) (v := ?_) (by rfl) (by kernel_rfl) (by kernel_rfl) (by kernel_rfl) (fun _ _ _ h => h) (by rfl) ?_ (by assumption) ?_; rotate_left; (focus (intro o ho; simp only [List.getElem?_toArray, List.getElem?_cons_succ, List.getElem?_cons_zero, Option.some.injEq] at ho; subst ho; intro w hSw; (try dsimp only at hSw); go_simp; (try with_reducible rfl); done))) | (refine take_n (i := 0) (d := (some 19)) (by rfl) (by kernel_rfl) (by kernel_rfl) (by kernel_rfl) (fun _ _ _ h => h) (by rfl) (by assumption) ?_)
            try simp only [Act.put, List.setIfInBounds_toArray, List.set_cons_zero, List.set_cons_succ]
            first | (refine take_w (i := 1) (d := (some 20)) (v := ?_) (by rfl) (by kernel_rfl) (by kernel_rfl) (by kernel_rfl) (fun _ _ _ h => h) (by rfl) ?_ (by assumption) ?_; rotate_left; (focus (intro o ho; simp only [List.getElem?_toArray, List.getElem?_cons_succ, List.getElem?_cons_zero, Option.some.injEq] at ho; subst ho; intro w hSw; (try dsimp only at hSw); go_simp; (try with_reducible rfl); done))) | (refine take_n (i := 1) (d := (some 20)) (by rfl) (by kernel_rfl) (by kernel_rfl) (by kernel_rfl) (fun _ _ _ h => h) (by rfl) (by assumption) ?_)
            try simp only [Act.put, List.setIfInBounds_toArray, List.set_cons_zero, List.set_cons_succ]
            first | (refine take_w (i := 2) (d := (some 21)) (v := ?_) (by rfl) (by kernel_rfl) (by kernel_rfl) (by kernel_rfl) (fun _ _ _ h => h) (by rfl) ?_ (by assumption) ?_; rotate_left; (focus (intro o ho; simp only [List.getElem?_toArray, List.getElem?_cons_succ, List.getElem?_cons_zero, Option.some.injEq] at ho; subst ho; intro w hSw; (try dsimp only at hSw); go_simp; (try with_reducible rfl); done))) | (refine take_n (i := 2) (d := (some 21)) (by rfl) (by kernel_rfl) (by kernel_rfl) (by kernel_rfl) (fun _ _ _ h => h) (by rfl) (by assumption) ?_)
            try simp only [Act.put, List.setIfInBounds_toArray, List.set_cons_zero, List.set_cons_succ]
            first | (refine take_w (i := 4) (d := (some 23)) (v := ?_) (by rfl) (by kernel_rfl) (by kernel_rfl) (by kernel_rfl) (fun _ _ _ h => h) (by rfl) ?_ (by assumption) ?_; rotate_left; (focus (intro o ho; simp only [List.getElem?_toArray, List.getElem?_cons_succ, List.getElem?_cons_zero, Option.some.injEq] at ho; subst ho; intro w hSw; (try dsimp only at hSw); go_simp; (try with_reducible rfl); done))) | (refine take_n (i := 4) (d := (some 23)) (by rfl) (by kernel_rfl) (by kernel_rfl) (by kernel_rfl) (fun _ _ _ h => h) (by rfl) (by assumption) ?_)
            try simp only [Act.put, List.setIfInBounds_toArray, List.set_cons_zero, List.set_cons_succ]
            first | (refine take_w (i := 5) (d := (some 24)) (v := ?_) (by rfl) (by kernel_rfl) (by kernel_rfl) (by kernel_rfl) (fun _ _ _ h => h) (by rfl) ?_ (by assumption) ?_; rotate_left; (focus (intro o ho; simp only [List.getElem?_toArray, List.getElem?_cons_succ, List.getElem?_cons_zero, Option.some.injEq] at ho; subst ho; intro w hSw; (try dsimp only at hSw); go_simp; (try with_reducible rfl); done))) | (refine take_n (i := 5) (d := (some 24)) (by rfl) (by kernel_rfl) (by kernel_rfl) (by kernel_rfl) (fun _ _ _ h => h) (by rfl) (by assumption) ?_)
            try simp only [Act.put, List.setIfInBounds_toArray, List.set_cons_zero, List.set_cons_succ]
            first | (refine take_w (i := 6) (d := (some 25)) (v := ?_) (by rfl) (by kernel_rfl) (by kernel_rfl) (by kernel_rfl) (fun _ _ _ h => h) (by rfl) ?_ (by assumption) ?_; rotate_left; (focus (intro o ho; simp only [List.getElem?_toArray, List.getElem?_cons_succ, List.getElem?_cons_zero, Option.some.injEq] at ho; subst ho; intro w hSw; (try dsimp only at hSw); go_simp; (try with_reducible rfl); done))) | (refine take_n (i := 6) (d := (some 25)) (by rfl) (by kernel_rfl) (by kernel_rfl) (by kernel_rfl) (fun _ _ _ h => h) (by rfl) (by assumption) ?_)
            try simp only [Act.put, List.setIfInBounds_toArray, List.set_cons_zero, List.set_cons_succ]
            first | (refine take_w (i := 7) (d := (some 26)) (v := ?_) (by rfl) (by kernel_rfl) (by kernel_rfl) (by kernel_rfl) (fun _ _ _ h => h) (by rfl) ?_ (by assumption) ?_; rotate_left; (focus (intro o ho; simp only [List.getElem?_toArray, List.getElem?_cons_succ, List.getElem?_cons_zero, Option.some.injEq] at ho; subst ho; intro w hSw; (try dsimp only at hSw); go_simp; (try with_reducible rfl); done))) | (refine take_n (i := 7) (d := (some 26)) (by rfl) (by kernel_rfl) (by kernel_rfl) (by kernel_rfl) (fun _ _ _ h => h) (by rfl) (by assumption) ?_)
            try simp only [Act.put, List.setIfInBounds_toArray, List.set_cons_zero, List.set_cons_succ]
            refine call_next (i := 3) (by kernel_rfl) (by rfl) ?_
            intro o ho K hK
            simp only [List.getElem?_toArray, List.getElem?_cons_succ, List.getElem?_cons_zero, Option.some.injEq] at ho
            subst ho
            first | (fail; refine hK.out _ _ ?_ (fun hHeld => ?_)) | (go_simp; first | (with_reducible refine hK.out _ _ ?_ (fun hHeld => ?_)) | ((go_at_call 61; first | ((with_reducible refine (V0.out _).mono ?_); rintro e wx ⟨rfl, rfl⟩) | ((with_reducible refine (V1.out _).mono ?_); rintro e wx ⟨rfl, rfl⟩)); refine hK.out _ _ ?_ (fun hHeld => ?_)))
            · trivial
            clear hK K
            try simp only [Act.put, List.setIfInBounds_toArray, List.set_cons_zero, List.set_cons_succ]
            refine call_next (i := 8) (by kernel_rfl) (by rfl) ?_
            intro o ho K hK
            simp only [List.getElem?_toArray, List.getElem?_cons_succ, List.getElem?_cons_zero, Option.some.injEq] at ho
            subst ho
            first | (fail; refine hK.out _ _ ?_ (fun hHeld => ?_)) | (go_simp; first | (with_reducible refine hK.out _ _ ?_ (fun hHeld => ?_)) | ((go_at_call 61; first | ((with_reducible refine (V0.out _).mono ?_); rintro e wx ⟨rfl, rfl⟩) | ((with_reducible refine (V1.out _).mono ?_); rintro e wx ⟨rfl, rfl⟩)); refine hK.out _ _ ?_ (fun hHeld => ?_)))
            · trivial
            clear hK K
            try simp only [Act.put, List.setIfInBounds_toArray, List.set_cons_zero, List.set_cons_succ]
            first | (refine take_w (i := 9) (d := (some 6)) (v := ?_) (by rfl) (by kernel_rfl) (by kernel_rfl) (by kernel_rfl) (fun _ _ _ h => h) (by rfl) ?_ (by assumption) ?_; rotate_left; (focus (intro o ho; simp only [List.getElem?_toArray, List.getElem?_cons_succ, List.getElem?_cons_zero, Option.some.injEq] at ho; subst ho; intro w hSw; (try dsimp only at hSw); go_simp; (try with_reducible rfl); done))) | (refine take_n (i := 9) (d := (some 6)) (by rfl) (by kernel_rfl) (by kernel_rfl) (by kernel_rfl) (fun _ _ _ h => h) (by rfl) (by assumption) ?_)
            try simp only [Act.put, List.setIfInBounds_toArray, List.set_cons_zero, List.set_cons_succ]
            first | (refine take_w (i := 10) (d := (some 7)) (v := ?_) (by rfl) (by kernel_rfl) (by kernel_rfl) (by kernel_rfl) (fun _ _ _ h => h) (by rfl) ?_ (by assumption) ?_; rotate_left; (focus (intro o ho; simp only [List.getElem?_toArray, List.getElem?_cons_succ, List.getElem?_cons_zero, Option.some.injEq] at ho; subst ho; intro w hSw; (try dsimp only at hSw); go_simp; (try with_reducible rfl); done))) | (refine take_n (i := 10) (d := (some 7)) (by rfl) (by kernel_rfl) (by kernel_rfl) (by kernel_rfl) (fun _ _ _ h => h) (by rfl) (by assumption) ?_)
            try simp only [Act.put, List.setIfInBounds_toArray, List.set_cons_zero, List.set_cons_succ]
            refine wpAnyH_done (by kernel_rfl) ?_ _
            go_wp2
            have hfin := HFIN.out
            exact bodyPost_ret (v := .tuple #[.string ⟨#[]⟩, .int .i64 4]) (by simp [results, Tryd.results46, go_sem]) rfl ⟨by rw [hfin.1, hfin.2], HB.out.drew⟩
          | some b =>
            have hb16 := (va_some hb).1
            obtain ⟨c, hc⟩ : ∃ c, c = 16 * a + b := ⟨_, rfl⟩
            have hpair : Hid (pairAt s k = some c) := by show _ = _; unfold pairAt; rw [← HJ.out, ← HQ.out, ha, hb, hc]
            have HL2 : Hid (unL s (k + 1) = some (l ++ [UInt8.ofNat c])) := by show _ = _; unfold unL; rw [HL.out, hpair.out]
            have V0 := Lib.hid (fun w => rvalue_of (rva_some ha) w (gd_lt _ _))
            have V1 := Lib.hid (fun w => rvalue_of (rva_some hb) w (gd_lt _ _))
            have hna : decide ((a : Int) < 0) = false := decide_eq_false (by omega)
            have hnb : decide ((b : Int) < 0) = false := decide_eq_false (by omega)
            have hcz : 16 * (a : Int) + (b : Int) = (c : Int) := by omega
            have hc256 : (c : Int) < 256 := by omega
            have hc0 : (0 : Int) ≤ (c : Int) := by omega
            clear ha hb hc
            have hcv := bytes_conv_from (wr.alloc (.cells #[.int .u8 (c : Int)] 5)).drew wr.heap.size 1 1 0 1 [UInt8.ofNat c] rfl rfl (fun j' hj' => by
              obtain rfl : j' = 0 := by omega
              have : (UInt8.ofNat c).toNat = c := by rw [UInt8.toNat_ofNat']; omega
              simp [go_sem, this])
            rw [List.drop_zero] at hcv
            have hmb : ByteArray.mk l.toArray ++ ⟨[UInt8.ofNat c].toArray⟩ = ⟨(l ++ [UInt8.ofNat c]).toArray⟩ := ByteArray.ext (by simp)
            have HMB := Lib.hid hmb
            have HB3 := Lib.hid ((HB.out.alloc HB.out.size (.cells #[.int .u8 (c : Int)] 5)).drew)
            clear hmb
            have hlz : ¬ 9223372036854775807 < k + 1 := by have := HN.out; omega
            have hlz2 : ¬ 9223372036854775807 < l.length + 1 := by have := HN.out; omega
            go_wp2
            refine wp_region_held_drew (S := (fun _ => True)) (by kernel_rfl) ?_ (fun hHeld => ?_)
            · trivial
            first | (refine take_w (i := 0) (d := (some 19)) (v := ?_) (by rfl) (by kernel_rfl) (by kernel_rfl) (by kernel_rfl) (fun _ _ _ h => h) (by rfl) ?_ (by assumption) ?_; rotate_left; (focus (intro o ho; simp only [List.getElem?_toArray, List.getElem?_cons_succ, List.getElem?_cons_zero, Option.some.injEq] at ho; subst ho; intro w hSw; (try dsimp only at hSw); go_simp; (try with_reducible rfl); done))) | (refine take_n (i := 0) (d := (some 19)) (by rfl) (by kernel_rfl) (by kernel_rfl) (by kernel_rfl) (fun _ _ _ h => h) (by rfl) (by assumption) ?_)
            try simp only [Act.put, List.setIfInBounds_toArray, List.set_cons_zero, List.set_cons_succ]
            first | (refine take_w (i := 1) (d := (some 20)) (v := ?_) (by rfl) (by kernel_rfl) (by kernel_rfl) (by kernel_rfl) (fun _ _ _ h => h) (by rfl) ?_ (by assumption) ?_; rotate_left; (focus (intro o ho; simp only [List.getElem?_toArray, List.getElem?_cons_succ, List.getElem?_cons_zero, Option.some.injEq] at ho; subst ho; intro w hSw; (try dsimp only at hSw); go_simp; (try with_reducible rfl); done))) | (refine take_n (i := 1) (d := (some 20)) (by rfl) (by kernel_rfl) (by kernel_rfl) (by kernel_rfl) (fun _ _ _ h => h) (by rfl) (by assumption) ?_)
            try simp only [Act.put, List.setIfInBounds_toArray, List.set_cons_zero, List.set_cons_succ]
            first | (refine take_w (i := 2) (d := (some 21)) (v := ?_) (by rfl) (by kernel_rfl) (by kernel_rfl) (by kernel_rfl) (fun _ _ _ h => h) (by rfl) ?_ (by assumption) ?_; rotate_left; (focus (intro o ho; simp only [List.getElem?_toArray, List.getElem?_cons_succ, List.getElem?_cons_zero, Option.some.injEq] at ho; subst ho; intro w hSw; (try dsimp only at hSw); go_simp; (try with_reducible rfl); done))) | (refine take_n (i := 2) (d := (some 21)) (by rfl) (by kernel_rfl) (by kernel_rfl) (by kernel_rfl) (fun _ _ _ h => h) (by rfl) (by assumption) ?_)
            try simp only [Act.put, List.setIfInBounds_toArray, List.set_cons_zero, List.set_cons_succ]
            first | (refine take_w (i := 4) (d := (some 23)) (v := ?_) (by rfl) (by kernel_rfl) (by kernel_rfl) (by kernel_rfl) (fun _ _ _ h => h) (by rfl) ?_ (by assumption) ?_; rotate_left; (focus (intro o ho; simp only [List.getElem?_toArray, List.getElem?_cons_succ, List.getElem?_cons_zero, Option.some.injEq] at ho; subst ho; intro w hSw; (try dsimp only at hSw); go_simp; (try with_reducible rfl); done))) | (refine take_n (i := 4) (d := (some 23)) (by rfl) (by kernel_rfl) (by kernel_rfl) (by kernel_rfl) (fun _ _ _ h => h) (by rfl) (by assumption) ?_)
            try simp only [Act.put, List.setIfInBounds_toArray, List.set_cons_zero, List.set_cons_succ]
            first | (refine take_w (i := 5) (d := (some 24)) (v := ?_) (by rfl) (by kernel_rfl) (by kernel_rfl) (by kernel_rfl) (fun _ _ _ h => h) (by rfl) ?_ (by assumption) ?_; rotate_left; (focus (intro o ho; simp only [List.getElem?_toArray, List.getElem?_cons_succ, List.getElem?_cons_zero, Option.some.injEq] at ho; subst ho; intro w hSw; (try dsimp only at hSw); go_simp; (try with_reducible rfl); done))) | (refine take_n (i := 5) (d := (some 24)) (by rfl) (by kernel_rfl) (by kernel_rfl) (by kernel_rfl) (fun _ _ _ h => h) (by rfl) (by assumption) ?_)
            try simp only [Act.put, List.setIfInBounds_toArray, List.set_cons_zero, List.set_cons_succ]
            first | (refine take_w (i := 6) (d := (some 25)) (v := ?_) (by rfl) (by kernel_rfl) (by kernel_rfl) (by kernel_rfl) (fun _ _ _ h => h) (by rfl) ?_ (by assumption) ?_; rotate_left; (focus (intro o ho; simp only [List.getElem?_toArray, List.getElem?_cons_succ, List.getElem?_cons_zero, Option.some.injEq] at ho; subst ho; intro w hSw; (try dsimp only at hSw); go_simp; (try with_reducible rfl); done))) | (refine take_n (i := 6) (d := (some 25)) (by rfl) (by kernel_rfl) (by kernel_rfl) (by kernel_rfl) (fun _ _ _ h => h) (by rfl) (by assumption) ?_)
            try simp only [Act.put, List.setIfInBounds_toArray, List.set_cons_zero, List.set_cons_succ]
            first | (refine take_w (i := 7) (d := (some 26)) (v := ?_) (by rfl) (by kernel_rfl) (by kernel_rfl) (by kernel_rfl) (fun _ _ _ h => h) (by rfl) ?_ (by assumption) ?_; rotate_left; (focus (intro o ho; simp only [List.getElem?_toArray, List.getElem?_cons_succ, List.getElem?_cons_zero, Option.some.injEq] at ho; subst ho; intro w hSw; (try dsimp only at hSw); go_simp; (try with_reducible rfl); done))) | (refine take_n (i := 7) (d := (some 26)) (by rfl) (by kernel_rfl) (by kernel_rfl) (by kernel_rfl) (fun _ _ _ h => h) (by rfl) (by assumption) ?_)
            try simp only [Act.put, List.setIfInBounds_toArray, List.set_cons_zero, List.set_cons_succ]
            refine call_next (i := 3) (by kernel_rfl) (by rfl) ?_
            intro o ho K hK
            simp only [List.getElem?_toArray, List.getElem?_cons_succ, List.getElem?_cons_zero, Option.some.injEq] at ho
            subst ho
            first | (fail; refine hK.out _ _ ?_ (fun hHeld => ?_)) | (go_simp; first | (with_reducible refine hK.out _ _ ?_ (fun hHeld => ?_)) | ((go_at_call 61; first | ((with_reducible refine (V0.out _).mono ?_); rintro e wx ⟨rfl, rfl⟩) | ((with_reducible refine (V1.out _).mono ?_); rintro e wx ⟨rfl, rfl⟩)); refine hK.out _ _ ?_ (fun hHeld => ?_)))
            · trivial
            clear hK K
            try simp only [Act.put, List.setIfInBounds_toArray, List.set_cons_zero, List.set_cons_succ]
            refine call_next (i := 8) (by kernel_rfl) (by rfl) ?_
            intro o ho K hK
            simp only [List.getElem?_toArray, List.getElem?_cons_succ, List.getElem?_cons_zero, Option.some.injEq] at ho
            subst ho
            first | (fail; refine hK.out _ _ ?_ (fun hHeld => ?_)) | (go_simp; first | (with_reducible refine hK.out _ _ ?_ (fun hHeld => ?_)) | ((go_at_call 61; first | ((with_reducible refine (V0.out _).mono ?_); rintro e wx ⟨rfl, rfl⟩) | ((with_reducible refine (V1.out _).mono ?_); rintro e wx ⟨rfl, rfl⟩)); refine hK.out _ _ ?_ (fun hHeld => ?_)))
            · trivial
            clear hK K
            try simp only [Act.put, List.setIfInBounds_toArray, List.set_cons_zero, List.set_cons_succ]
            first | (refine take_w (i := 9) (d := (some 6)) (v := ?_) (by rfl) (by kernel_rfl) (by kernel_rfl) (by kernel_rfl) (fun _ _ _ h => h) (by rfl) ?_ (by assumption) ?_; rotate_left; (focus (intro o ho; simp only [List.getElem?_toArray, List.getElem?_cons_succ, List.getElem?_cons_zero, Option.some.injEq] at ho; subst ho; intro w hSw; (try dsimp only at hSw); go_simp; (try with_reducible rfl); done))) | (refine take_n (i := 9) (d := (some 6)) (by rfl) (by kernel_rfl) (by kernel_rfl) (by kernel_rfl) (fun _ _ _ h => h) (by rfl) (by assumption) ?_)
            try simp only [Act.put, List.setIfInBounds_toArray, List.set_cons_zero, List.set_cons_succ]
            first | (refine take_w (i := 10) (d := (some 7)) (v := ?_) (by rfl) (by kernel_rfl) (by kernel_rfl) (by kernel_rfl) (fun _ _ _ h => h) (by rfl) ?_ (by assumption) ?_; rotate_left; (focus (intro o ho; simp only [List.getElem?_toArray, List.getElem?_cons_succ, List.getElem?_cons_zero, Option.some.injEq] at ho; subst ho; intro w hSw; (try dsimp only at hSw); go_simp; (try with_reducible rfl); done))) | (refine take_n (i := 10) (d := (some 7)) (by rfl) (by kernel_rfl) (by kernel_rfl) (by kernel_rfl) (fun _ _ _ h => h) (by rfl) (by assumption) ?_)
            try simp only [Act.put, List.setIfInBounds_toArray, List.set_cons_zero, List.set_cons_succ]
            refine wpAnyH_done (by kernel_rfl) ?_ _
            go_wp2
            exact ⟨⟨k + 1, l ++ [UInt8.ofNat c], by omega, by have := HJ.out; go_num, congrArg Value.string HMB.out, HL2.out, HB3.out⟩, by have := HJ.out; simp [intOf]; omega⟩
      · have hke : k = n := by omega
        subst hke
        have HFIN := Lib.hid (un_good HN.out HL.out)
        have hs2 : (s.size : Int) = 2 * (k : Int) := by have := HN.out; omega
        clear hll
        go_wp2
        have hfin := HFIN.out
        exact bodyPost_ret (v := .tuple #[.string ⟨l.toArray⟩, .int .i64 0]) (by simp [results, Tryd.results46, go_sem]) rfl ⟨by rw [hfin.1, hfin.2], HB.out⟩
  · obtain ⟨e1, e2⟩ := un_odd hpar
    have h2 : ((s.size : Int) % 2 != 0) = true := by rw [bne_iff_ne]; omega
    rw [e1, e2]
    clear e1 e2 hpar
    go_enter Tryd.func46, Tryd.ntmps46
    go_wp2
    exact bodyPost_ret (v := .tuple #[.string ⟨#[]⟩, .int .i64 4]) (by simp [results, Tryd.results46, go_sem]) rfl ⟨rfl, Below.refl _ _⟩
end Go.Proofs.YtaddbljdheafaaaDoor
