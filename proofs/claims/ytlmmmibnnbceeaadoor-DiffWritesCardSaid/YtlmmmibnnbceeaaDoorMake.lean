/-
  A slice of n zeros, made.
-/
import Derived.Test.YtlmmmibnnbceeaaDoorMine
import Derived.Laws.MakeOwn
import Derived.Laws.OwnMore
namespace Go.Proofs.YtlmmmibnnbceeaaDoor
open Go.RowKit
set_option linter.unusedVariables false
set_option linter.unusedSimpArgs false

theorem mk_full {P : Program} (t e : TypeId) (z : Value) (bytes : Nat) (ht : P.underlying t = some (.slice e)) (hinfo : (P.info? e).map (fun i => (i.zero, i.size, i.bytes)) = some (some z, 1, bytes)) (hz1 : z.cells = #[z])
    (n : Nat) (k : Int) (hk : k = n) (hbytes : bytes * n ≤ 281474976710656) (h63 : n ≤ 9223372036854775807) (w : World) :
    (Instr.makeSlice t (.int .i64 k) (.int .i64 k)).run P w = .ok (.slice (some ⟨w.heap.size, 0, none⟩) n n) (w.alloc (.cells (madeCells #[z] n) e)) := by
  subst hk
  obtain ⟨i, hi, hzz⟩ := Option.map_eq_some_iff.1 hinfo
  simp only [Prod.mk.injEq] at hzz
  obtain ⟨hz, hs, hb⟩ := hzz
  have hb' : (i.bytes : Int) * (n : Int) ≤ 281474976710656 := by
    have h : ((i.bytes * n : Nat) : Int) ≤ 281474976710656 := by rw [hb]; omega
    rwa [Int.natCast_mul] at h
  have h := run_make (P := P) w t e i z ht hi hz .i64 .i64 (n : Int) (n : Int) (by omega) (by omega) hb' (by omega)
  rw [hz1, hs] at h
  simpa using h
theorem made_cell (w : World) (e : TypeId) (z : Value) (n j : Nat) (hj : j < n) : (w.alloc (.cells (madeCells #[z] n) e)).cell? ⟨w.heap.size, j, none⟩ = some z := by
  have h1 := heap_alloc_new w (.cells (madeCells #[z] n) e)
  rw [cell_of_row _ w.heap.size j (madeCells #[z] n) e (0, 0) h1]
  simp [madeCells, hj, Nat.mod_one]
theorem made_free (w : World) (e : TypeId) (z : Value) (n j : Nat) : (w.alloc (.cells (madeCells #[z] n) e)).frozen? ⟨w.heap.size, j, none⟩ = false :=
  frozen_of_row _ w.heap.size j (madeCells #[z] n) e (heap_alloc_new w _)
end Go.Proofs.YtlmmmibnnbceeaaDoor
