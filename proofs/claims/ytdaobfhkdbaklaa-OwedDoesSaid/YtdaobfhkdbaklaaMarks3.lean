/-
  A set of small numbers: its bytes, how many.
-/
import Derived.Test.YtdaobfhkdbaklaaMarks2
import Derived.Shelf.Small.Bits
namespace Go.Proofs.Ytdaobfhkdbaklaa
open Go.RowKit
set_option linter.unusedVariables false
set_option linter.unusedSimpArgs false

def msS (bs : List Nat) : ByteArray := strOfNums (bs.map fun x => ((x : Nat) : Int))
theorem many_any (s g many : Nat) (bs : List Nat) (w : World) (h : MS w s g many bs) : Calls Try.prog 20 #[.pointer (some ⟨s, 0, none⟩)] w fun e w' => e = .returned (.int .i64 many) ∧ w = w' := by
  have hc0 := h.c0
  go_enter Try.func20, Try.ntmps20
  go_wp2
  go_ret
  exact ⟨rfl, rfl⟩
theorem many_none (w : World) : Calls Try.prog 20 #[.pointer none] w fun e w' => e = .returned (.int .i64 0) ∧ w = w' := by
  go_enter Try.func20, Try.ntmps20
  go_wp2
  go_ret
  exact ⟨rfl, rfl⟩
def onesRen : Go.Shelf.Ren := ⟨fun | 135 => 26 | n => n, fun | 3 => 3 | 5 => 5 | 9 => 9 | n => n, fun x => x⟩
theorem onesLays : Lays.n135 Try.prog onesRen where
  mixed := by kernel_rfl
  f135 := by kernel_rfl
  t3 := by kernel_rfl
  a3 := fun _ => by kernel_rfl
  z3 := fun _ => by kernel_rfl
  v3 := fun _ => by kernel_rfl
  t5 := by kernel_rfl
  a5 := fun _ => by kernel_rfl
  z5 := fun _ => by kernel_rfl
  v5 := fun _ => by kernel_rfl
  t9 := by kernel_rfl
  a9 := fun _ => by kernel_rfl
  z9 := fun _ => by kernel_rfl
  v9 := fun _ => by kernel_rfl
theorem ones_any (c : Nat) (w : World) (hc : c < 256) : Calls Try.prog 26 #[.int .u8 c] w fun e w' => e = .returned (.int .i64 (Lib.onesCount c)) ∧ w = w' :=
  (Any.bits_OnesCount8 onesLays (c : Int) w (by omega) (by omega)).mono fun _ _ h => ⟨h.1, h.2.symm⟩
end Go.Proofs.Ytdaobfhkdbaklaa
