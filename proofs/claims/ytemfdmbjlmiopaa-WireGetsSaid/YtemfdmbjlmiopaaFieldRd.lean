/-
  Walks over the readers of fields (chapter 2): the program's.
-/
import Derived.Test.YtemfdmbjlmiopaaFieldRef
import Derived.Lib.ConvBytes
namespace Go.Proofs.Ytemfdmbjlmiopaa
open Go.RowKit
set_option linter.unusedVariables false

/-- a reader at block g: what is left, what it failed with -/
structure IsRd (w : World) (g : Nat) (rest : ByteArray) (err : Int) : Prop where
  c0 : w.cell? ⟨g, 0, none⟩ = some (.string rest)
  c1 : w.cell? ⟨g, 1, none⟩ = some (.int .i64 err)
  f0 : w.frozen? ⟨g, 0, none⟩ = false
  f1 : w.frozen? ⟨g, 1, none⟩ = false
theorem IsRd.frm {S : Nat → Prop} {w w' : World} {g : Nat} {rest : ByteArray} {err : Int} (h : IsRd w g rest err) (hf : Frm S w w') (hg : ¬ S g) : IsRd w' g rest err :=
  have hlt := World.block_lt_of_cell? w _ h.c0
  ⟨hf.cell hg h.c0, hf.cell hg h.c1, (hf.frozen (p := ⟨g, 0, none⟩) hg hlt).trans h.f0, (hf.frozen (p := ⟨g, 1, none⟩) hg hlt).trans h.f1⟩
theorem IsRd.drew {w : World} {g : Nat} {rest : ByteArray} {err : Int} (h : IsRd w g rest err) : IsRd w.drew g rest err := ⟨h.c0, h.c1, h.f0, h.f1⟩
theorem IsRd.set0 {w : World} {g : Nat} {rest : ByteArray} {err : Int} (h : IsRd w g rest err) (x : ByteArray) : IsRd (w.setCell ⟨g, 0, none⟩ (.string x)) g x err :=
  ⟨by simp [go_sem, h.c0], by simp [go_sem, h.c1], by simpa [go_sem] using h.f0, by simpa [go_sem] using h.f1⟩
theorem IsRd.set1 {w : World} {g : Nat} {rest : ByteArray} {err : Int} (h : IsRd w g rest err) (x : Int) : IsRd (w.setCell ⟨g, 1, none⟩ (.int .i64 x)) g rest x :=
  ⟨by simp [go_sem, h.c0], by simp [go_sem, h.c1], by simpa [go_sem] using h.f0, by simpa [go_sem] using h.f1⟩
theorem IsRd.new (w : World) (rest : ByteArray) (err : Int) (T : TypeId) : IsRd (w.alloc (.cells #[.string rest, .int .i64 err] T)) w.heap.size rest err :=
  ⟨by simp [go_sem], by simp [go_sem], by simp [go_sem], by simp [go_sem]⟩

theorem new_any (s : ByteArray) (w : World) : Calls Try.prog 35 #[.string s] w fun e w' => e = .returned (.pointer (some ⟨w.heap.size, 0, none⟩)) ∧ w.alloc (.cells #[.string s, .int .i64 0] 93) = w' := by
  go_enter Try.func35, Try.ntmps35
  go_wp2
  go_ret
  exact ⟨rfl, rfl⟩

set_option maxHeartbeats 800000 in
theorem fail_any (g : Nat) (x : Int) (rest : ByteArray) (err : Int) (w : World) (h : IsRd w g rest err) :
    Calls Try.prog 57 #[.pointer (some ⟨g, 0, none⟩), .int .i64 x] w fun e w' => e = .returned (.tuple #[]) ∧ IsRd w' g rest (if err = 0 then x else err) ∧ Frm (· = g) w w' := by
  have h0 := h.c0
  have h1 := h.c1
  have f1 := h.f1
  have HH := Lib.hid h
  clear h
  by_cases he : err = 0
  · subst he
    go_enter Try.func57, Try.ntmps57
    go_wp2
    go_end0
    exact ⟨rfl, HH.out.set1 x, Frm.one _ _ _ _⟩
  · have hb : (err == 0) = false := by simpa using he
    go_enter Try.func57, Try.ntmps57
    go_wp2
    go_end0
    exact ⟨rfl, HH.out, Frm.refl _ _⟩

set_option maxHeartbeats 800000 in
theorem bytes_any (g : Nat) (n : Int) (rest : ByteArray) (err : Int) (w : World) (hr : rest.size ≤ maxLen) (h : IsRd w g rest err) :
    Calls Try.prog 46 #[.pointer (some ⟨g, 0, none⟩), .int .i64 n] w fun e w' => e = .returned (.string (rdOut rest err n)) ∧ IsRd w' g (rdRest rest err n) (rdErr rest err n) ∧ Frm (· = g) w w' := by
  unfold maxLen at hr
  have h0 := h.c0
  have h1 := h.c1
  have f0 := h.f0
  have f1 := h.f1
  have HH := Lib.hid h
  clear h
  by_cases he : err = 0
  · subst he
    by_cases hn : n < 0
    · have e1 : rdErr rest 0 n = 3 := by unfold rdErr; simp [hn]
      have e2 : rdOut rest 0 n = ⟨#[]⟩ := by unfold rdOut; rw [e1]; rfl
      have e3 : rdRest rest 0 n = rest := by unfold rdRest; rw [e1]; rfl
      rw [e1, e2, e3]
      clear e1 e2 e3
      go_enter Try.func46, Try.ntmps46
      go_wp2_with fail
      refine (fail_any g 3 rest 0 _ HH.out).mono ?_
      rintro e w1 ⟨rfl, hI, hF⟩
      have c0 := hI.c0
      have c1 := hI.c1
      rw [if_pos rfl] at c1 hI
      go_wp2
      go_ret
      exact ⟨rfl, hI, hF⟩
    · by_cases hl : (rest.size : Int) < n
      · have e1 : rdErr rest 0 n = 1 := by unfold rdErr; simp [hn, hl]
        have e2 : rdOut rest 0 n = ⟨#[]⟩ := by unfold rdOut; rw [e1]; rfl
        have e3 : rdRest rest 0 n = rest := by unfold rdRest; rw [e1]; rfl
        rw [e1, e2, e3]
        clear e1 e2 e3
        go_enter Try.func46, Try.ntmps46
        go_wp2_with fail
        refine (fail_any g 1 rest 0 _ HH.out).mono ?_
        rintro e w1 ⟨rfl, hI, hF⟩
        have c0 := hI.c0
        have c1 := hI.c1
        rw [if_pos rfl] at c1 hI
        go_wp2
        go_ret
        exact ⟨rfl, hI, hF⟩
      · obtain ⟨m, rfl⟩ := Int.eq_ofNat_of_zero_le (show 0 ≤ n by omega)
        have e1 : rdErr rest 0 m = 0 := by unfold rdErr; simp [hl]
        have e2 : rdOut rest 0 m = rest.extract 0 m := by unfold rdOut; rw [e1]; rfl
        have e3 : rdRest rest 0 m = rest.extract m rest.size := by unfold rdRest; rw [e1]; rfl
        rw [e1, e2, e3]
        clear e1 e2 e3
        go_enter Try.func46, Try.ntmps46
        go_wp2
        go_ret
        exact ⟨rfl, HH.out.set0 _, Frm.one _ _ _ _⟩
  · have hb : (err == 0) = false := by simpa using he
    have hb2 : (err != 0) = true := by simpa using he
    have e1 : rdErr rest err n = err := by unfold rdErr; simp [he]
    have e2 : rdOut rest err n = ⟨#[]⟩ := by unfold rdOut; rw [e1, if_neg he]
    have e3 : rdRest rest err n = rest := by unfold rdRest; rw [e1, if_neg he]
    rw [e1, e2, e3]
    clear e1 e2 e3
    by_cases hn : n < 0
    · go_enter Try.func46, Try.ntmps46
      go_wp2_with fail
      refine (fail_any g 3 rest err _ HH.out).mono ?_
      rintro e w1 ⟨rfl, hI, hF⟩
      rw [if_neg he] at hI
      have c0 := hI.c0
      have c1 := hI.c1
      go_wp2
      go_ret
      exact ⟨rfl, hI, hF⟩
    · by_cases hl : (rest.size : Int) < n
      · go_enter Try.func46, Try.ntmps46
        go_wp2_with fail
        refine (fail_any g 1 rest err _ HH.out).mono ?_
        rintro e w1 ⟨rfl, hI, hF⟩
        rw [if_neg he] at hI
        have c0 := hI.c0
        have c1 := hI.c1
        go_wp2
        go_ret
        exact ⟨rfl, hI, hF⟩
      · go_enter Try.func46, Try.ntmps46
        go_wp2
        go_ret
        exact ⟨rfl, HH.out, Frm.refl _ _⟩

theorem rdOut_size (rest : ByteArray) (err n : Int) : (rdOut rest err n).size ≤ rest.size := by
  unfold rdOut
  split
  · simp; omega
  · exact Nat.zero_le _
theorem rdOut_size7 (rest : ByteArray) (err n : Int) (h : n ≤ 7) : (rdOut rest err n).size ≤ 7 := by
  unfold rdOut
  split
  · simp; omega
  · exact Nat.zero_le _
theorem rdRest_size (rest : ByteArray) (err n : Int) : (rdRest rest err n).size ≤ rest.size := by
  unfold rdRest
  split
  · simp
  · exact Nat.le_refl _
theorem nat256_take (l : List UInt8) (k : Nat) (h : k < l.length) : nat256 (l.take (k + 1)) = nat256 (l.take k) * 256 + l[k].toNat := by
  rw [List.take_succ_eq_append_getElem h, nat256_snoc]
theorem nat256_small (l : List UInt8) (h : l.length ≤ 7) : nat256 l < 72057594037927936 := by
  have h1 := nat256_lt l
  have h2 : 256 ^ l.length ≤ 256 ^ 7 := Nat.pow_le_pow_right (by omega) h
  omega
theorem shl_or (n c : Nat) (hn : n < 281474976710656) (hc : c < 256) : bits .or .i64 ((n : Int) * 256) (c : Int) = ((n * 256 + c : Nat) : Int) := by
  have h := (bits_nat .i64 63 (by decide) (fun n h0 h1 => by rw [IntKind.wrap_i64]; omega) (n * 256) c (by omega) (by omega)).2
  have e : ((n : Int) * 256) = ((n * 256 : Nat) : Int) := by omega
  rw [e, h]
  congr 1
  have h2 := Nat.two_pow_add_eq_or_of_lt (i := 8) (b := c) (by omega) n
  rw [show n * 256 = 2 ^ 8 * n by omega, ← h2]

set_option maxHeartbeats 1600000 in
theorem num_any (g : Nat) (n : Int) (rest : ByteArray) (err : Int) (w : World) (hr : rest.size ≤ maxLen) (h : IsRd w g rest err) :
    Calls Try.prog 36 #[.pointer (some ⟨g, 0, none⟩), .int .i64 n] w fun e w' => e = .returned (.int .i64 (nmOut rest err n)) ∧ IsRd w' g (nmRest rest err n) (nmErr rest err n) ∧ Frm (· = g) w w' := by
  by_cases hw : widthB n = true
  · have e1 : nmErr rest err n = rdErr rest err n := by unfold nmErr; rw [if_pos hw]
    have e2 : nmOut rest err n = nat256 (rdOut rest err n).data.toList := by unfold nmOut; rw [if_pos hw]
    have e3 : nmRest rest err n = rdRest rest err n := by unfold nmRest; rw [if_pos hw]
    rw [e1, e2, e3]
    clear e1 e2 e3
    have h7 : n ≤ 7 := by unfold widthB at hw; have := of_decide_eq_true hw; omega
    have hs7 := rdOut_size7 rest err n h7
    have HH := Lib.hid h
    clear h
    generalize hb : rdOut rest err n = b at *
    have HB := Lib.hid hb
    clear hb
    have hcv := fun W => Lib.run_convert_string_bytes (P := Try.prog) W 9 83 5 b Try.underlying9 Try.underlying83 Try.underlying5
    go_enter Try.func36, Try.ntmps36
    go_wp2_with (first | (go_at_call 56; (with_reducible refine (width_any _ _).mono ?_); rintro e w' ⟨rfl, rfl⟩) | (go_at_call 46; (with_reducible refine (bytes_any _ _ _ _ _ hr HH.out).mono ?_); rintro e w1 ⟨rfl, hI, hF⟩; rw [HB.out]))
    obtain ⟨W0, hW0, hc0, hB0⟩ : ∃ W0, W0 = Lib.bytesWorld w1 5 b ∧ (∀ j, j < b.size → W0.cell? ⟨w1.heap.size, j, none⟩ = some (.int .u8 (b.data.toList.getD j 0).toNat)) ∧ Below w1.heap.size w1 W0 :=
      ⟨_, rfl, fun j hj => Lib.bytesWorld_cell w1 5 b j hj, bytesWorld_below w1 5 b⟩
    rw [← hW0]
    have HC0 := Lib.hid hc0
    clear hW0 hcv hc0
    go_loop [5, 20] (fun x i => ∃ k : Nat, k ≤ b.size ∧ i = .int .i64 k ∧ x = .int .i64 (nat256 (b.data.toList.take k) : Nat)) (fun _ i => b.size - (intOf i).toNat)
    case atStart => exact ⟨0, by omega, rfl, rfl⟩
    case round =>
      obtain ⟨k, hk, rfl, rfl⟩ := hrel
      by_cases hlt : k < b.size
      · have hck := HC0.out k hlt
        have hsm := nat256_small (b.data.toList.take k) (by simp; omega)
        have HT := Lib.hid (nat256_take b.data.toList k (by simpa using hlt))
        have hsm2 : nat256 (b.data.toList.take k) < 281474976710656 := by
          have h1 := nat256_lt (b.data.toList.take k)
          have h2 : 256 ^ (b.data.toList.take k).length ≤ 256 ^ 6 := Nat.pow_le_pow_right (by omega) (by simp; omega)
          omega
        have hcb : b.data[k].toNat < 256 := b.data[k].toNat_lt
        have HO := Lib.hid (shl_or _ _ hsm2 hcb)
        clear hsm
        go_wp2
        go_round
        case rel =>
          refine ⟨k + 1, by omega, by go_num, ?_⟩
          rw [HT.out, HO.out]
          rfl
        case measure => simp [intOf]; omega
      · go_wp2
        go_ret
        obtain rfl : k = b.size := by omega
        refine ⟨?_, hI.frm (S := fun _ => False) (Frm.ofBelow hB0) (fun h => h), hF.below hB0⟩
        rw [List.take_of_length_le (by simp)]; rfl
  · have hw' : widthB n = false := by simpa using hw
    have e1 : nmErr rest err n = if err = 0 then 3 else err := by unfold nmErr; rw [if_neg hw]
    have e2 : nmOut rest err n = 0 := by unfold nmOut; rw [if_neg hw]
    have e3 : nmRest rest err n = rest := by unfold nmRest; rw [if_neg hw]
    rw [e1, e2, e3]
    clear e1 e2 e3
    have HH := Lib.hid h
    clear h
    by_cases he : err = 0
    · rw [if_pos he]
      go_enter Try.func36, Try.ntmps36
      go_wp2_with (first | (go_at_call 56; (with_reducible refine (width_any _ _).mono ?_); rintro e w' ⟨rfl, rfl⟩) | (go_at_call 57; (with_reducible refine (fail_any _ _ _ _ _ HH.out).mono ?_); rintro e w1 ⟨rfl, hI, hF⟩; rw [if_pos he] at hI))
      go_ret
      exact ⟨rfl, hI, hF⟩
    · rw [if_neg he]
      go_enter Try.func36, Try.ntmps36
      go_wp2_with (first | (go_at_call 56; (with_reducible refine (width_any _ _).mono ?_); rintro e w' ⟨rfl, rfl⟩) | (go_at_call 57; (with_reducible refine (fail_any _ _ _ _ _ HH.out).mono ?_); rintro e w1 ⟨rfl, hI, hF⟩; rw [if_neg he] at hI))
      go_ret
      exact ⟨rfl, hI, hF⟩

theorem left_any (g : Nat) (rest : ByteArray) (err : Int) (w : World) (h : IsRd w g rest err) :
    Calls Try.prog 47 #[.pointer (some ⟨g, 0, none⟩)] w fun e w' => e = .returned (.int .i64 rest.size) ∧ w = w' := by
  have h0 := h.c0
  clear h
  go_enter Try.func47, Try.ntmps47
  go_wp2
  go_ret
  exact ⟨rfl, rfl⟩
set_option maxHeartbeats 800000 in
theorem end_any (g : Nat) (rest : ByteArray) (err : Int) (w : World) (h : IsRd w g rest err) :
    Calls Try.prog 58 #[.pointer (some ⟨g, 0, none⟩)] w fun e w' => e = .returned (.int .i64 (rdEnd rest err)) ∧ w = w' := by
  have h0 := h.c0
  have h1 := h.c1
  clear h
  by_cases he : err = 0
  · subst he
    by_cases hz : rest.size = 0
    · have b1 : rest.toList.isEmpty = true := by rw [empty_size]; simpa using hz
      have HE : Hid (rdEnd rest 0 = 0) := by unfold rdEnd; show _ = _; simp [hz]
      clear hz
      go_enter Try.func58, Try.ntmps58
      go_wp2
      go_ret
      exact ⟨congrArg (fun x => Ending.returned (.int .i64 x)) HE.out.symm, rfl⟩
    · have b1 : rest.toList.isEmpty = false := by rw [empty_size]; simpa using hz
      have HE : Hid (rdEnd rest 0 = 2) := by unfold rdEnd; show _ = _; simp [hz]
      clear hz
      go_enter Try.func58, Try.ntmps58
      go_wp2
      go_ret
      exact ⟨congrArg (fun x => Ending.returned (.int .i64 x)) HE.out.symm, rfl⟩
  · have HE : Hid (rdEnd rest err = err) := by unfold rdEnd; show _ = _; simp [he]
    have hb : (err == 0) = false := by simpa using he
    go_enter Try.func58, Try.ntmps58
    go_wp2
    go_ret
    exact ⟨congrArg (fun x => Ending.returned (.int .i64 x)) HE.out.symm, rfl⟩
theorem left_nil (w : World) : Calls Try.prog 47 #[.pointer none] w fun e w' => e = .returned (.int .i64 0) ∧ w = w' := by
  go_enter Try.func47, Try.ntmps47
  go_wp2
  go_ret
  exact ⟨rfl, rfl⟩
theorem end_nil (w : World) : Calls Try.prog 58 #[.pointer none] w fun e w' => e = .returned (.int .i64 10) ∧ w = w' := by
  go_enter Try.func58, Try.ntmps58
  go_wp2
  go_ret
  exact ⟨rfl, rfl⟩
theorem bytes_nil (n : Int) (w : World) : Calls Try.prog 46 #[.pointer none, .int .i64 n] w fun e w' => e = .returned (.string ⟨#[]⟩) ∧ w = w' := by
  go_enter Try.func46, Try.ntmps46
  go_wp2
  go_ret
  exact ⟨rfl, rfl⟩
theorem num_nil (n : Int) (w : World) : Calls Try.prog 36 #[.pointer none, .int .i64 n] w fun e w' => e = .returned (.int .i64 0) ∧ w = w' := by
  go_enter Try.func36, Try.ntmps36
  go_wp2
  go_ret
  exact ⟨rfl, rfl⟩
end Go.Proofs.Ytemfdmbjlmiopaa
