/-
  Bytes in digits (chapter 1): the reference.
-/
import Derived.Test.YtaddbljdheafaaaDoorCountHex
import Derived.BigQuiet
namespace Go.Proofs.YtaddbljdheafaaaDoor
open Go.RowKit
set_option linter.unusedVariables false
set_option linter.unusedSimpArgs false
set_option maxRecDepth 20000

def digs16 : ByteArray := ⟨#[48, 49, 50, 51, 52, 53, 54, 55, 56, 57, 97, 98, 99, 100, 101, 102]⟩
theorem digs16_at (n : Nat) (h : n < 16) : digs16.extract n (n + 1) = ⟨#[dgU n]⟩ := by
  have key : ∀ n : Fin 16, (digs16.extract n.val (n.val + 1)).data = #[dgU n.val] := by decide +kernel
  exact ByteArray.ext (key ⟨n, h⟩)
theorem hex_step (s : ByteArray) (k : Nat) : (ByteArray.mk (hexL s k).toArray ++ ⟨#[dgU (gd s k / 16)]⟩) ++ ⟨#[dgU (gd s k % 16)]⟩ = ⟨(hexL s (k + 1)).toArray⟩ := by
  apply ByteArray.ext
  show _ = ((hexL s k ++ hexB (gd s k)).toArray)
  simp [hexB]
set_option maxHeartbeats 3200000 in
theorem rhex_any (s : ByteArray) (w : World) (hs : s.size ≤ 70368744177664) : Calls Tryd.prog 38 #[.string s] w fun e w' => e = .returned (.string (hexS s)) ∧ Below w.heap.size w w' := by
  go_enter Tryd.func38, Tryd.ntmps38
  go_wp2
  go_loopw [3, 4] (fun v i wr => ∃ k : Nat, k ≤ s.size ∧ i = .int .i64 k ∧ v = .string ⟨(hexL s k).toArray⟩ ∧ Hid (Below w.heap.size w wr)) (fun _ i _ => s.size - (intOf i).toNat)
  case atStart => exact ⟨0, Nat.zero_le _, rfl, rfl, Below.refl _ _⟩
  case round =>
    obtain ⟨k, hk, rfl, rfl, HB⟩ := hrel
    by_cases hlt : k < s.size
    · have hgk := gd_eq hlt
      have hk0 : (0 : Int) ≤ (k : Int) := by omega
      have hk1 : (k : Int) < (s.size : Int) := by omega
      have hlen := hexL_len s k
      have hg := gd_lt s k
      have hq0 : (0 : Int) ≤ (gd s k : Int) / 16 := by omega
      have hq1 : (gd s k : Int) / 16 < 16 := by omega
      have hr0 : (0 : Int) ≤ (gd s k : Int) % 16 := by omega
      have hr1 : (gd s k : Int) % 16 < 16 := by omega
      go_wp2
      go_quiet (fail)
      have e1 : ({ data := #[48, 49, 50, 51, 52, 53, 54, 55, 56, 57, 97, 98, 99, 100, 101, 102] } : ByteArray).extract (gd s k / 16) (gd s k / 16 + 1) = ⟨#[dgU (gd s k / 16)]⟩ := digs16_at _ (by omega)
      have e2 : ({ data := #[48, 49, 50, 51, 52, 53, 54, 55, 56, 57, 97, 98, 99, 100, 101, 102] } : ByteArray).extract (gd s k % 16) (gd s k % 16 + 1) = ⟨#[dgU (gd s k % 16)]⟩ := digs16_at _ (by omega)
      rw [e1, e2, hex_step]
      clear e1 e2
      have H2 := Lib.hid (bdraws HB.out nq)
      go_wp2
      exact ⟨⟨k + 1, by omega, by go_num, rfl, H2.out⟩, by simp [intOf]; omega⟩
    · have hke : k = s.size := by omega
      subst hke
      go_wp2
      go_ret
      exact ⟨rfl, HB.out⟩
end Go.Proofs.YtaddbljdheafaaaDoor
