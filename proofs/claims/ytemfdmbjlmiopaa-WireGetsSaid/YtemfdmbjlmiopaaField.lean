/-
  Walks over package field and its reference (chapter 2): Fits, Put.
-/
import Derived.Test.YtemfdmbjlmiopaaRows
import Derived.Test.YtemfdmbjlmiopaaMine
import Derived.Test.YtemfdmbjlmiopaaFieldPlain
import Derived.WalkKit
import Derived.WalkSpells
import Derived.WalkLawsBesides
import Derived.Lib.Hide
import Derived.Handy
namespace Go.Proofs.Ytemfdmbjlmiopaa
open Go.RowKit
set_option linter.unusedVariables false

theorem width_any (n : Int) (w : World) : Calls Try.prog 56 #[.int .i64 n] w fun e w' => e = .returned (.bool (widthB n)) ∧ w = w' := by
  by_cases h1 : 1 ≤ n
  · have hf : decide (n ≤ 7) = widthB n := by unfold widthB; simp [h1]
    have HF := Lib.hid hf
    clear hf
    go_enter Try.func56, Try.ntmps56
    go_wp2
    go_ret
    exact ⟨congrArg (fun b => Ending.returned (.bool b)) HF.out, rfl⟩
  · have hf : false = widthB n := by unfold widthB; simp [h1]
    have HF := Lib.hid hf
    clear hf
    go_enter Try.func56, Try.ntmps56
    go_wp2
    go_ret
    exact ⟨congrArg (fun b => Ending.returned (.bool b)) HF.out, rfl⟩

set_option maxHeartbeats 3200000 in
theorem fits_any (n size : Int) (w : World) (hn : n ≤ 9223372036854775807) : Calls Try.prog 49 #[.int .i64 n, .int .i64 size] w fun e w' => e = .returned (.bool (fitsB n size)) ∧ w = w' := by
  by_cases hw : 1 ≤ size ∧ size ≤ 7
  · have hwb : widthB size = true := by unfold widthB; exact decide_eq_true hw
    obtain ⟨h1, h7⟩ := hw
    by_cases h0 : 0 ≤ n
    · rcases size_cases h1 h7 with rfl | rfl | rfl | rfl | rfl | rfl | rfl
      · have hf := Lib.hid (fits_at n h0 1 (by omega) (by omega) 256 (by decide))
        go_enter Try.func49, Try.ntmps49
        go_wp2_with (go_at_call 56; (with_reducible refine (width_any _ _).mono ?_); rintro e w' ⟨rfl, rfl⟩)
        go_ret
        exact ⟨congrArg (fun b => Ending.returned (.bool b)) hf.out.symm, rfl⟩
      · have hf := Lib.hid (fits_at n h0 2 (by omega) (by omega) 65536 (by decide))
        go_enter Try.func49, Try.ntmps49
        go_wp2_with (go_at_call 56; (with_reducible refine (width_any _ _).mono ?_); rintro e w' ⟨rfl, rfl⟩)
        go_ret
        exact ⟨congrArg (fun b => Ending.returned (.bool b)) hf.out.symm, rfl⟩
      · have hf := Lib.hid (fits_at n h0 3 (by omega) (by omega) 16777216 (by decide))
        go_enter Try.func49, Try.ntmps49
        go_wp2_with (go_at_call 56; (with_reducible refine (width_any _ _).mono ?_); rintro e w' ⟨rfl, rfl⟩)
        go_ret
        exact ⟨congrArg (fun b => Ending.returned (.bool b)) hf.out.symm, rfl⟩
      · have hf := Lib.hid (fits_at n h0 4 (by omega) (by omega) 4294967296 (by decide))
        go_enter Try.func49, Try.ntmps49
        go_wp2_with (go_at_call 56; (with_reducible refine (width_any _ _).mono ?_); rintro e w' ⟨rfl, rfl⟩)
        go_ret
        exact ⟨congrArg (fun b => Ending.returned (.bool b)) hf.out.symm, rfl⟩
      · have hf := Lib.hid (fits_at n h0 5 (by omega) (by omega) 1099511627776 (by decide))
        go_enter Try.func49, Try.ntmps49
        go_wp2_with (go_at_call 56; (with_reducible refine (width_any _ _).mono ?_); rintro e w' ⟨rfl, rfl⟩)
        go_ret
        exact ⟨congrArg (fun b => Ending.returned (.bool b)) hf.out.symm, rfl⟩
      · have hf := Lib.hid (fits_at n h0 6 (by omega) (by omega) 281474976710656 (by decide))
        go_enter Try.func49, Try.ntmps49
        go_wp2_with (go_at_call 56; (with_reducible refine (width_any _ _).mono ?_); rintro e w' ⟨rfl, rfl⟩)
        go_ret
        exact ⟨congrArg (fun b => Ending.returned (.bool b)) hf.out.symm, rfl⟩
      · have hf := Lib.hid (fits_at n h0 7 (by omega) (by omega) 72057594037927936 (by decide))
        go_enter Try.func49, Try.ntmps49
        go_wp2_with (go_at_call 56; (with_reducible refine (width_any _ _).mono ?_); rintro e w' ⟨rfl, rfl⟩)
        go_ret
        exact ⟨congrArg (fun b => Ending.returned (.bool b)) hf.out.symm, rfl⟩
    · have hf := Lib.hid (fits_not (n := n) (size := size) (fun h => h0 h.2.2))
      go_enter Try.func49, Try.ntmps49
      go_wp2_with (go_at_call 56; (with_reducible refine (width_any _ _).mono ?_); rintro e w' ⟨rfl, rfl⟩)
      go_ret
      exact ⟨congrArg (fun b => Ending.returned (.bool b)) hf.out.symm, rfl⟩
  · have hwb : widthB size = false := by unfold widthB; exact decide_eq_false hw
    have hf := Lib.hid (fits_not (n := n) (size := size) (fun h => hw ⟨h.1, h.2.1⟩))
    clear hw
    go_enter Try.func49, Try.ntmps49
    go_wp2_with (go_at_call 56; (with_reducible refine (width_any _ _).mono ?_); rintro e w' ⟨rfl, rfl⟩)
    go_ret
    exact ⟨congrArg (fun b => Ending.returned (.bool b)) hf.out.symm, rfl⟩

/-- the cells of a block of a few bytes, as a text -/
theorem conv_block (W : World) (T : TypeId) (xs : List Int) (n : Nat) (hn : xs.length = n) :
    (convert 83 9 (.slice (some ⟨W.heap.size, 0, none⟩) n n)).run Try.prog (W.alloc (.cells (xs.map (Value.int .u8)).toArray T)) =
      .ok (.string (strOfNums xs)) (W.alloc (.cells (xs.map (Value.int .u8)).toArray T)) := by
  refine run_convert_bytes_arg _ 83 5 Try.underlying83 Try.underlying5 W.heap.size 0 n n xs hn (fun i hi => ?_) 9 Try.underlying9
  simp [go_sem, List.getD_eq_getElem?_getD, List.getElem?_eq_getElem (show i < xs.length by omega)]

set_option maxHeartbeats 3200000 in
theorem put_eq (s : ByteArray) (m k : Nat) (x : ByteArray) (hfit : fitsB (m : Int) (k : Int) = true) (h : x = ⟨(be k m).toArray⟩) : s ++ x = putS s (m : Int) (k : Int) := by
  unfold putS; rw [if_pos hfit, h]; rfl
set_option maxHeartbeats 3200000 in
theorem put_any (s : ByteArray) (n size : Int) (w : World) (hn : n ≤ 9223372036854775807) (hs : s.size ≤ 140737488355328) : Calls Try.prog 22 #[.string s, .int .i64 n, .int .i64 size] w fun e w' => e = .returned (.string (putS s n size)) ∧ Below w.heap.size w w' := by
  by_cases hfit : fitsB n size = true
  · obtain ⟨h1, h7, h0, hlt⟩ := fits_iff.1 hfit
    obtain ⟨m, rfl⟩ := Int.eq_ofNat_of_zero_le h0
    rcases size_cases h1 h7 with rfl | rfl | rfl | rfl | rfl | rfl | rfl
    · have hlt' : (m : Int) < 256 := hlt
      have HF := Lib.hid (put_eq s m 1 _ hfit (be_1 m hlt'))
      clear hlt h1 h7 h0
      have hss := strOfNums_size
      have hmk : ∀ w, (Instr.makeSlice 83 (.int .i64 1) (.int .i64 1)).run Try.prog w = .ok (.slice (some ⟨w.heap.size, 0, none⟩) 1 1) (w.alloc (.cells #[.int .u8 0] 5)) := fun _ => by kernel_rfl
      have hcv : ∀ (W : World) (a0 : Int), (convert 83 9 (.slice (some ⟨W.heap.size, 0, none⟩) 1 1)).run Try.prog (W.alloc (.cells #[.int .u8 a0] 5)) = .ok (.string (strOfNums [a0])) (W.alloc (.cells #[.int .u8 a0] 5)) := fun W a0 => conv_block W 5 [a0] 1 rfl
      go_enter Try.func22, Try.ntmps22
      go_wp2_with (go_at_call 49; (with_reducible refine (fits_any _ _ _ hn).mono ?_); rintro e w' ⟨rfl, rfl⟩)
      refine wp_loop_rounds 2 ?_
      rw [rounds_succ]; go_wp2
      rw [rounds_succ]; go_wp2
      go_ret
      refine ⟨?_, (Below.refl _ _).alloc (Nat.le_refl _) _⟩
      exact congrArg (fun b => Ending.returned (.string b)) HF.out
    · have hlt' : (m : Int) < 65536 := hlt
      have HF := Lib.hid (put_eq s m 2 _ hfit (be_2 m hlt'))
      clear hlt h1 h7 h0
      have hss := strOfNums_size
      have hmk : ∀ w, (Instr.makeSlice 83 (.int .i64 2) (.int .i64 2)).run Try.prog w = .ok (.slice (some ⟨w.heap.size, 0, none⟩) 2 2) (w.alloc (.cells #[.int .u8 0, .int .u8 0] 5)) := fun _ => by kernel_rfl
      have hcv : ∀ (W : World) (a0 a1 : Int), (convert 83 9 (.slice (some ⟨W.heap.size, 0, none⟩) 2 2)).run Try.prog (W.alloc (.cells #[.int .u8 a0, .int .u8 a1] 5)) = .ok (.string (strOfNums [a0, a1])) (W.alloc (.cells #[.int .u8 a0, .int .u8 a1] 5)) := fun W a0 a1 => conv_block W 5 [a0, a1] 2 rfl
      go_enter Try.func22, Try.ntmps22
      go_wp2_with (go_at_call 49; (with_reducible refine (fits_any _ _ _ hn).mono ?_); rintro e w' ⟨rfl, rfl⟩)
      refine wp_loop_rounds 3 ?_
      rw [rounds_succ]; go_wp2
      rw [rounds_succ]; go_wp2
      rw [rounds_succ]; go_wp2
      go_ret
      refine ⟨?_, (Below.refl _ _).alloc (Nat.le_refl _) _⟩
      exact congrArg (fun b => Ending.returned (.string b)) HF.out
    · have hlt' : (m : Int) < 16777216 := hlt
      have HF := Lib.hid (put_eq s m 3 _ hfit (be_3 m hlt'))
      clear hlt h1 h7 h0
      have hss := strOfNums_size
      have hmk : ∀ w, (Instr.makeSlice 83 (.int .i64 3) (.int .i64 3)).run Try.prog w = .ok (.slice (some ⟨w.heap.size, 0, none⟩) 3 3) (w.alloc (.cells #[.int .u8 0, .int .u8 0, .int .u8 0] 5)) := fun _ => by kernel_rfl
      have hcv : ∀ (W : World) (a0 a1 a2 : Int), (convert 83 9 (.slice (some ⟨W.heap.size, 0, none⟩) 3 3)).run Try.prog (W.alloc (.cells #[.int .u8 a0, .int .u8 a1, .int .u8 a2] 5)) = .ok (.string (strOfNums [a0, a1, a2])) (W.alloc (.cells #[.int .u8 a0, .int .u8 a1, .int .u8 a2] 5)) := fun W a0 a1 a2 => conv_block W 5 [a0, a1, a2] 3 rfl
      go_enter Try.func22, Try.ntmps22
      go_wp2_with (go_at_call 49; (with_reducible refine (fits_any _ _ _ hn).mono ?_); rintro e w' ⟨rfl, rfl⟩)
      refine wp_loop_rounds 4 ?_
      rw [rounds_succ]; go_wp2
      rw [rounds_succ]; go_wp2
      rw [rounds_succ]; go_wp2
      rw [rounds_succ]; go_wp2
      go_ret
      refine ⟨?_, (Below.refl _ _).alloc (Nat.le_refl _) _⟩
      exact congrArg (fun b => Ending.returned (.string b)) HF.out
    · have hlt' : (m : Int) < 4294967296 := hlt
      have HF := Lib.hid (put_eq s m 4 _ hfit (be_4 m hlt'))
      clear hlt h1 h7 h0
      have hss := strOfNums_size
      have hmk : ∀ w, (Instr.makeSlice 83 (.int .i64 4) (.int .i64 4)).run Try.prog w = .ok (.slice (some ⟨w.heap.size, 0, none⟩) 4 4) (w.alloc (.cells #[.int .u8 0, .int .u8 0, .int .u8 0, .int .u8 0] 5)) := fun _ => by kernel_rfl
      have hcv : ∀ (W : World) (a0 a1 a2 a3 : Int), (convert 83 9 (.slice (some ⟨W.heap.size, 0, none⟩) 4 4)).run Try.prog (W.alloc (.cells #[.int .u8 a0, .int .u8 a1, .int .u8 a2, .int .u8 a3] 5)) = .ok (.string (strOfNums [a0, a1, a2, a3])) (W.alloc (.cells #[.int .u8 a0, .int .u8 a1, .int .u8 a2, .int .u8 a3] 5)) := fun W a0 a1 a2 a3 => conv_block W 5 [a0, a1, a2, a3] 4 rfl
      go_enter Try.func22, Try.ntmps22
      go_wp2_with (go_at_call 49; (with_reducible refine (fits_any _ _ _ hn).mono ?_); rintro e w' ⟨rfl, rfl⟩)
      refine wp_loop_rounds 5 ?_
      rw [rounds_succ]; go_wp2
      rw [rounds_succ]; go_wp2
      rw [rounds_succ]; go_wp2
      rw [rounds_succ]; go_wp2
      rw [rounds_succ]; go_wp2
      go_ret
      refine ⟨?_, (Below.refl _ _).alloc (Nat.le_refl _) _⟩
      exact congrArg (fun b => Ending.returned (.string b)) HF.out
    · have hlt' : (m : Int) < 1099511627776 := hlt
      have HF := Lib.hid (put_eq s m 5 _ hfit (be_5 m hlt'))
      clear hlt h1 h7 h0
      have hss := strOfNums_size
      have hmk : ∀ w, (Instr.makeSlice 83 (.int .i64 5) (.int .i64 5)).run Try.prog w = .ok (.slice (some ⟨w.heap.size, 0, none⟩) 5 5) (w.alloc (.cells #[.int .u8 0, .int .u8 0, .int .u8 0, .int .u8 0, .int .u8 0] 5)) := fun _ => by kernel_rfl
      have hcv : ∀ (W : World) (a0 a1 a2 a3 a4 : Int), (convert 83 9 (.slice (some ⟨W.heap.size, 0, none⟩) 5 5)).run Try.prog (W.alloc (.cells #[.int .u8 a0, .int .u8 a1, .int .u8 a2, .int .u8 a3, .int .u8 a4] 5)) = .ok (.string (strOfNums [a0, a1, a2, a3, a4])) (W.alloc (.cells #[.int .u8 a0, .int .u8 a1, .int .u8 a2, .int .u8 a3, .int .u8 a4] 5)) := fun W a0 a1 a2 a3 a4 => conv_block W 5 [a0, a1, a2, a3, a4] 5 rfl
      go_enter Try.func22, Try.ntmps22
      go_wp2_with (go_at_call 49; (with_reducible refine (fits_any _ _ _ hn).mono ?_); rintro e w' ⟨rfl, rfl⟩)
      refine wp_loop_rounds 6 ?_
      rw [rounds_succ]; go_wp2
      rw [rounds_succ]; go_wp2
      rw [rounds_succ]; go_wp2
      rw [rounds_succ]; go_wp2
      rw [rounds_succ]; go_wp2
      rw [rounds_succ]; go_wp2
      go_ret
      refine ⟨?_, (Below.refl _ _).alloc (Nat.le_refl _) _⟩
      exact congrArg (fun b => Ending.returned (.string b)) HF.out
    · have hlt' : (m : Int) < 281474976710656 := hlt
      have HF := Lib.hid (put_eq s m 6 _ hfit (be_6 m hlt'))
      clear hlt h1 h7 h0
      have hss := strOfNums_size
      have hmk : ∀ w, (Instr.makeSlice 83 (.int .i64 6) (.int .i64 6)).run Try.prog w = .ok (.slice (some ⟨w.heap.size, 0, none⟩) 6 6) (w.alloc (.cells #[.int .u8 0, .int .u8 0, .int .u8 0, .int .u8 0, .int .u8 0, .int .u8 0] 5)) := fun _ => by kernel_rfl
      have hcv : ∀ (W : World) (a0 a1 a2 a3 a4 a5 : Int), (convert 83 9 (.slice (some ⟨W.heap.size, 0, none⟩) 6 6)).run Try.prog (W.alloc (.cells #[.int .u8 a0, .int .u8 a1, .int .u8 a2, .int .u8 a3, .int .u8 a4, .int .u8 a5] 5)) = .ok (.string (strOfNums [a0, a1, a2, a3, a4, a5])) (W.alloc (.cells #[.int .u8 a0, .int .u8 a1, .int .u8 a2, .int .u8 a3, .int .u8 a4, .int .u8 a5] 5)) := fun W a0 a1 a2 a3 a4 a5 => conv_block W 5 [a0, a1, a2, a3, a4, a5] 6 rfl
      go_enter Try.func22, Try.ntmps22
      go_wp2_with (go_at_call 49; (with_reducible refine (fits_any _ _ _ hn).mono ?_); rintro e w' ⟨rfl, rfl⟩)
      refine wp_loop_rounds 7 ?_
      rw [rounds_succ]; go_wp2
      rw [rounds_succ]; go_wp2
      rw [rounds_succ]; go_wp2
      rw [rounds_succ]; go_wp2
      rw [rounds_succ]; go_wp2
      rw [rounds_succ]; go_wp2
      rw [rounds_succ]; go_wp2
      go_ret
      refine ⟨?_, (Below.refl _ _).alloc (Nat.le_refl _) _⟩
      exact congrArg (fun b => Ending.returned (.string b)) HF.out
    · have hlt' : (m : Int) < 72057594037927936 := hlt
      have HF := Lib.hid (put_eq s m 7 _ hfit (be_7 m hlt'))
      clear hlt h1 h7 h0
      have hss := strOfNums_size
      have hmk : ∀ w, (Instr.makeSlice 83 (.int .i64 7) (.int .i64 7)).run Try.prog w = .ok (.slice (some ⟨w.heap.size, 0, none⟩) 7 7) (w.alloc (.cells #[.int .u8 0, .int .u8 0, .int .u8 0, .int .u8 0, .int .u8 0, .int .u8 0, .int .u8 0] 5)) := fun _ => by kernel_rfl
      have hcv : ∀ (W : World) (a0 a1 a2 a3 a4 a5 a6 : Int), (convert 83 9 (.slice (some ⟨W.heap.size, 0, none⟩) 7 7)).run Try.prog (W.alloc (.cells #[.int .u8 a0, .int .u8 a1, .int .u8 a2, .int .u8 a3, .int .u8 a4, .int .u8 a5, .int .u8 a6] 5)) = .ok (.string (strOfNums [a0, a1, a2, a3, a4, a5, a6])) (W.alloc (.cells #[.int .u8 a0, .int .u8 a1, .int .u8 a2, .int .u8 a3, .int .u8 a4, .int .u8 a5, .int .u8 a6] 5)) := fun W a0 a1 a2 a3 a4 a5 a6 => conv_block W 5 [a0, a1, a2, a3, a4, a5, a6] 7 rfl
      go_enter Try.func22, Try.ntmps22
      go_wp2_with (go_at_call 49; (with_reducible refine (fits_any _ _ _ hn).mono ?_); rintro e w' ⟨rfl, rfl⟩)
      refine wp_loop_rounds 8 ?_
      rw [rounds_succ]; go_wp2
      rw [rounds_succ]; go_wp2
      rw [rounds_succ]; go_wp2
      rw [rounds_succ]; go_wp2
      rw [rounds_succ]; go_wp2
      rw [rounds_succ]; go_wp2
      rw [rounds_succ]; go_wp2
      rw [rounds_succ]; go_wp2
      go_ret
      refine ⟨?_, (Below.refl _ _).alloc (Nat.le_refl _) _⟩
      exact congrArg (fun b => Ending.returned (.string b)) HF.out
  · have hfit' : fitsB n size = false := by simpa using hfit
    go_enter Try.func22, Try.ntmps22
    go_wp2_with (go_at_call 49; (with_reducible refine (fits_any _ _ _ hn).mono ?_); rintro e w' ⟨rfl, rfl⟩)
    go_ret
    refine ⟨?_, Below.refl _ _⟩
    unfold putS
    rw [if_neg hfit]; rfl
end Go.Proofs.Ytemfdmbjlmiopaa
