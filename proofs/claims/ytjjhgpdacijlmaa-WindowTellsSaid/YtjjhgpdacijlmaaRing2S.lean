/-
  A ring of texts: the rest of its functions walked.
-/
import Derived.Test.YtjjhgpdacijlmaaRingS
namespace Go.Proofs.Ytjjhgpdacijlmaa
open Go.RowKit
set_option linter.unusedVariables false
set_option linter.unusedSimpArgs false

theorem pushS_full (r g fr n : Nat) (C : List ByteArray) (x : ByteArray) (w : World) (h : RGS w r g fr n C) (hn : n = C.length) : Calls Try.prog 19 #[.pointer (some ⟨r, 0, none⟩), .string x] w fun e w' =>
    e = .returned (.int .i64 6) ∧ ∃ m, w' = w.drewN m := by
  have hc0 := h.c0
  have hc2 := h.c2
  have hm := h.hm
  clear h
  rw [hn] at hc2
  obtain ⟨m, hmm⟩ : ∃ m, C.length = m := ⟨_, rfl⟩
  rw [hmm] at hc0 hc2 hm
  have hd : decide (m = m) = true := decide_eq_true rfl
  go_enter Try.func19, Try.ntmps19
  go_wp2
  go_quiet (fail)
  go_wp2
  go_ret
  exact ⟨rfl, _, rfl⟩
theorem pushS_nil (x : ByteArray) (w : World) : Calls Try.prog 19 #[.pointer none, .string x] w fun e w' => e = .returned (.int .i64 10) ∧ w = w' := by
  go_enter Try.func19, Try.ntmps19
  go_wp2
  go_ret
  exact ⟨rfl, rfl⟩
def atVS (L : List ByteArray) (i : Int) : Value := if h : 0 ≤ i ∧ i < L.length then .tuple #[Value.string (L[i.toNat]'(by omega)), .bool true] else .tuple #[.string ⟨#[]⟩, .bool false]
theorem atS_nil (i : Int) (w : World) : Calls Try.prog 29 #[.pointer none, .int .i64 i] w fun e w' => e = .returned (.tuple #[.string ⟨#[]⟩, .bool false]) ∧ w = w' := by
  go_enter Try.func29, Try.ntmps29
  go_wp2
  go_ret2
  exact ⟨rfl, rfl⟩
theorem atS_any (r g fr n : Nat) (C : List ByteArray) (i : Int) (w : World) (h : RGS w r g fr n C) : Calls Try.prog 29 #[.pointer (some ⟨r, 0, none⟩), .int .i64 i] w fun e w' =>
    e = .returned (atVS (LS C fr n) i) ∧ ∃ m, w' = w.drewN m := by
  have hc0 := h.c0
  have hc2 := h.c2
  by_cases h1 : 0 ≤ i ∧ i < n
  · have hv : atVS (LS C fr n) i = .tuple #[Value.string ((LS C fr n)[i.toNat]'(by rw [rgL_len]; omega)), .bool true] := by
      unfold atVS
      rw [dif_pos (by rw [rgL_len]; exact h1)]
    obtain ⟨k, rfl⟩ : ∃ k : Nat, i = k := ⟨i.toNat, by omega⟩
    have hkn : k < n := by omega
    have hnC := h.hn
    have hm := h.hm
    have hlt : (fr + k) % C.length < C.length := Nat.mod_lt _ (by omega)
    have hP := Lib.hid (fun m => placeS_any r g fr n C k (w.drewN m) (h.below (bdraws0 w m)) (by omega) (by omega))
    have hcell := h.b _ hlt
    have hq : (LS C fr n)[(k : Int).toNat]'(by rw [rgL_len]; omega) = C[(fr + k) % C.length] := by
      simp only [Int.toNat_natCast]
      rw [rgL_get _ _ _ _ _ hkn, List.getD_eq_getElem?_getD, List.getElem?_eq_getElem hlt]; rfl
    rw [hq] at hv
    have hv := Lib.hid hv
    have hh := Lib.hid h
    have hlt' := Lib.hid hlt
    clear h hq
    generalize (fr + k) % C.length = z at *
    generalize C[z] = old at *
    have g1 : decide ((k : Int) < 0) = false := decide_eq_false (by omega)
    have g2 : decide ((n : Int) ≤ (k : Int)) = false := decide_eq_false (by omega)
    go_enter Try.func29, Try.ntmps29
    go_wp2
    go_quiet ((go_at_call 24; with_reducible exact Calls.quiet_of (hP.out _)))
    go_wp2
    go_ret2
    exact ⟨by rw [hv.out]; rfl, _, rfl⟩
  · have hv : atVS (LS C fr n) i = .tuple #[.string ⟨#[]⟩, .bool false] := by
      unfold atVS
      rw [dif_neg (by rw [rgL_len]; exact h1)]
    rw [hv]
    clear hv
    by_cases h2 : i < 0
    · go_enter Try.func29, Try.ntmps29
      go_wp2
      go_ret2
      exact ⟨rfl, 0, rfl⟩
    · have g1 : decide (i < 0) = false := decide_eq_false h2
      have g2 : decide ((n : Int) ≤ i) = true := decide_eq_true (by omega)
      clear h1 h2
      go_enter Try.func29, Try.ntmps29
      go_wp2
      go_ret2
      exact ⟨rfl, 0, rfl⟩
theorem lenS_any (r g fr n : Nat) (C : List ByteArray) (w : World) (h : RGS w r g fr n C) : Calls Try.prog 18 #[.pointer (some ⟨r, 0, none⟩)] w fun e w' => e = .returned (.int .i64 n) ∧ w = w' := by
  have hc2 := h.c2
  go_enter Try.func18, Try.ntmps18
  go_wp2
  go_ret
  exact ⟨rfl, rfl⟩
theorem lenS_nil (w : World) : Calls Try.prog 18 #[.pointer none] w fun e w' => e = .returned (.int .i64 0) ∧ w = w' := by
  go_enter Try.func18, Try.ntmps18
  go_wp2
  go_ret
  exact ⟨rfl, rfl⟩
theorem roomS_any (r g fr n : Nat) (C : List ByteArray) (w : World) (h : RGS w r g fr n C) : Calls Try.prog 21 #[.pointer (some ⟨r, 0, none⟩)] w fun e w' => e = .returned (.int .i64 ((C.length - n : Nat) : Int)) ∧ ∃ m, w' = w.drewN m := by
  have hc0 := h.c0
  have hc2 := h.c2
  have hn := h.hn
  have hm := h.hm
  clear h
  obtain ⟨m, hmm⟩ : ∃ m, C.length = m := ⟨_, rfl⟩
  rw [hmm] at hc0 hn hm ⊢
  have e1 : IntKind.i64.wrap ((m : Int) - (n : Int)) = ((m - n : Nat) : Int) := by rw [IntWalk.i64_in _ (by omega)]; omega
  go_enter Try.func21, Try.ntmps21
  go_wp2
  go_quiet (fail)
  go_wp2
  go_ret
  exact ⟨rfl, _, rfl⟩
theorem roomS_nil (w : World) : Calls Try.prog 21 #[.pointer none] w fun e w' => e = .returned (.int .i64 0) ∧ w = w' := by
  go_enter Try.func21, Try.ntmps21
  go_wp2
  go_ret
  exact ⟨rfl, rfl⟩
theorem dropS_nil (i : Int) (w : World) : Calls Try.prog 20 #[.pointer none, .int .i64 i] w fun e w' => e = .returned (.int .i64 0) ∧ w = w' := by
  go_enter Try.func20, Try.ntmps20
  go_wp2
  go_ret
  exact ⟨rfl, rfl⟩
end Go.Proofs.Ytjjhgpdacijlmaa
