/-
  What is owed: counted; made.
-/
import Derived.Test.YtdaobfhkdbaklaaOwed3
namespace Go.Proofs.Ytdaobfhkdbaklaa
open Go.RowKit
set_option linter.unusedVariables false
set_option linter.unusedSimpArgs false

/-- how many are owed -/
def lenC (cs : List Nat) : Nat := (cs.map Lib.onesCount).sum
theorem lenC_snoc (cs : List Nat) (k : Nat) (h : k < cs.length) : lenC (cs.take (k + 1)) = lenC (cs.take k) + Lib.onesCount cs[k] := by
  unfold lenC
  rw [List.take_succ_eq_append_getElem h, List.map_append, List.sum_append]
  simp
theorem onesC_le (c : Nat) (hc : c < 256) : Lib.onesCount c ≤ 8 := Lib.onesCount_le8 ⟨c, hc⟩
theorem lenC_le (bs : List Nat) (k : Nat) (hk : k ≤ bs.length) (hb : ∀ x ∈ bs, x < 256) : lenC (bs.take k) ≤ 8 * k := by
  induction k with
  | zero => simp [lenC]
  | succ k ih =>
    rw [lenC_snoc bs k (by omega)]
    have := ih (by omega)
    have := onesC_le bs[k] (hb bs[k] (List.getElem_mem _))
    omega
set_option maxHeartbeats 1600000 in
theorem olen_any (o h s gM many : Nat) (bs cs : List Nat) (w : World) (H : OW w o h s gM many bs cs) : Calls Try.prog 9 #[.pointer (some ⟨o, 0, none⟩)] w fun e w' => e = .returned (.int .i64 (lenC cs)) ∧ w = w' := by
  have hc1 := H.c1
  have hb := Lib.hid H.b
  have hlt : ∀ x ∈ cs, x < 256 := fun x hx => by have := (H.lt x hx).1; omega
  have hl : cs.length ≤ 24 := by rw [H.len]; exact H.h24
  have hn := H.len
  rw [hn] at hl
  have hn := Lib.hid hn
  go_enter Try.func9, Try.ntmps9
  go_wp2
  go_loop [3, 13] (fun t i => ∃ k : Nat, k ≤ many ∧ i = .int .i64 k ∧ t = .int .i64 (lenC (cs.take k) : Nat)) (fun _ i => many - (intOf i).toNat)
  case atStart => exact ⟨0, Nat.zero_le _, rfl, rfl⟩
  case round =>
    obtain ⟨k, hk, rfl, rfl⟩ := hrel
    have hle := lenC_le cs k (by have := hn.out; omega) hlt
    by_cases hkn : k < many
    · have hk1 : k < cs.length := by have := hn.out; omega
      have hcell := hb.out k hk1
      have hbk : cs[k] < 256 := hlt _ (List.getElem_mem hk1)
      have hss := Lib.hid (lenC_snoc cs k hk1)
      generalize lenC (cs.take k) = a at *
      generalize cs[k] = c at *
      have hoc := ones_any c w hbk
      have hon := onesC_le c hbk
      clear H hlt
      generalize Lib.onesCount c = q at *
      go_wp2_with (go_at_call 26; (with_reducible refine hoc.mono ?_); rintro e w1 ⟨rfl, rfl⟩)
      go_round
      case rel => exact ⟨k + 1, by omega, by go_num, by rw [hss.out]; go_num⟩
      case measure => simp [intOf]; omega
    · obtain rfl : k = many := by omega
      have ht : Hid (cs.take k = cs) := List.take_of_length_le (by have := hn.out; omega)
      go_wp2
      go_ret
      exact ⟨by rw [ht.out]; rfl, rfl⟩
def ONew (w : World) (many : Int) (e : Ending) (w' : World) : Prop := ∃ o h s gM bs, e = .returned (.pointer (some ⟨o, 0, none⟩)) ∧ OW w' o h s gM (nS (min many 24)) bs (List.replicate (nS (min many 24)) 0) ∧ w.heap.size ≤ o ∧ w.heap.size ≤ h ∧ w.heap.size ≤ s ∧ w.heap.size ≤ gM ∧ Below w.heap.size w w' ∧ h < w'.heap.size
theorem onew_any (many : Int) (w : World) (hm : -9223372036854775808 ≤ many ∧ many ≤ 9223372036854775807) : Calls Try.prog 6 #[.int .i64 many] w (ONew w many) := by
  have hN := new_any (min many 24) w (by omega)
  have h24 : nS (min many 24) ≤ 24 := by unfold nS; omega
  have hX : ∀ w1 s gM, MS w1 s gM (nS (min many 24)) (zeros (min many 24)) → w.heap.size ≤ s → w.heap.size ≤ gM → Below w.heap.size w w1 → ONew w many (.returned (.pointer (some ⟨w1.heap.size + 1, 0, none⟩))) ((w1.alloc (.cells (madeCells #[.int .u8 0] (nS (min many 24))) 5)).alloc (.cells #[.pointer (some ⟨s, 0, none⟩), .slice (some ⟨w1.heap.size, 0, none⟩) (nS (min many 24)) (nS (min many 24))] 46)) := by
    intro w1 s gM hM hs hg hb
    unfold ONew
    generalize nS (min many 24) = n at *
    have hA1 : Below w1.heap.size w1 (w1.alloc (.cells (madeCells #[.int .u8 0] n) 5)) := (Below.refl _ _).alloc (Nat.le_refl _) _
    have hA2 : Below (w1.alloc (.cells (madeCells #[.int .u8 0] n) 5)).heap.size (w1.alloc (.cells (madeCells #[.int .u8 0] n) 5)) ((w1.alloc (.cells (madeCells #[.int .u8 0] n) 5)).alloc (.cells #[.pointer (some ⟨s, 0, none⟩), .slice (some ⟨w1.heap.size, 0, none⟩) n n] 46)) := (Below.refl _ _).alloc (Nat.le_refl _) _
    have hsz := hb.size
    have hsl := hM.lt
    have hgl := hM.hg
    refine ⟨w1.heap.size + 1, w1.heap.size, s, gM, zeros (min many 24), rfl, ⟨by simp [go_sem], by simp [go_sem], fun j hj => ?_, fun j hj => ?_, (hM.below hA1).below hA2, by simp, fun x hx => ?_, fun j hj => ?_, by omega, by omega, by omega, by omega, h24⟩, by omega, by omega, hs, hg, (hb.trans (hA1.mono hsz)).trans (hA2.mono (by simp; omega)), by simp; omega⟩
    · rw [List.getElem_replicate]
      exact bkeep hA2 (made_cell w1 5 (.int .u8 0) n j (by rw [List.length_replicate] at hj; exact hj))
    · exact bfree hA2 (made_cell w1 5 (.int .u8 0) n j (by rw [List.length_replicate] at hj; exact hj)) (made_free _ _ _ _ _)
    · rw [(List.mem_replicate.1 hx).2]; decide
    · rw [List.getElem_replicate, zeros_bit]; simp
  have hmk := mk_full (P := Try.prog) 44 5 (.int .u8 0) 1 Try.underlying44 (by kernel_rfl) rfl (nS (min many 24)) (nS (min many 24) : Nat) (by omega) (by omega) (by omega)
  have hmn := fun w1 s gM (h : MS w1 s gM (nS (min many 24)) (zeros (min many 24))) => many_any s gM _ _ w1 h
  have hX := Lib.hid hX
  have hmn := Lib.hid hmn
  have hN := Lib.hid hN
  go_enter Try.func6, Try.ntmps6
  go_wp2_with (first | (go_at_call 19; (with_reducible refine hN.out.mono ?_); rintro e w1 ⟨s, gM, rfl, hM, hs, hg, hb⟩) | (go_at_call 20; (with_reducible refine (hmn.out _ _ _ hM).mono ?_); rintro e wx ⟨rfl, rfl⟩))
  go_ret
  exact hX.out _ _ _ hM hs hg hb
end Go.Proofs.Ytdaobfhkdbaklaa
