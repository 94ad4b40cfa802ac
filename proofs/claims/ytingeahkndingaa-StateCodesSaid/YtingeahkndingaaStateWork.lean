/-
  Chapter 23: the statements' works.
-/
import Derived.Test.YtingeahkndingaaStateFact
import Derived.Laws.MakeOwn
namespace Go.Proofs.Ytingeahkndingaa
open Go.RowKit
set_option linter.unusedVariables false
set_option linter.unusedSimpArgs false
def z128 : ByteArray := strOfNums (List.replicate 128 0)
theorem convZ (W : World) (n : Nat) : (convert 51 9 (.slice (some ⟨W.heap.size, 0, none⟩) n n)).run Try.prog (W.alloc (.cells (madeCells #[.int .u8 0] n) 5)) = .ok (.string (strOfNums (List.replicate n 0))) (W.alloc (.cells (madeCells #[.int .u8 0] n) 5)) := by
  refine run_convert_bytes_arg _ 51 5 Try.underlying51 Try.underlying5 W.heap.size 0 n n (List.replicate n 0) (by simp) (fun i hi => ?_) 9 Try.underlying9
  simp [go_sem, madeCells, hi, Nat.mod_one]
theorem conv128 (W : World) : (convert 51 9 (.slice (some ⟨W.heap.size, 0, none⟩) 128 128)).run Try.prog (W.alloc (.cells (madeCells #[.int .u8 0] 128) 5)) = .ok (.string z128) (W.alloc (.cells (madeCells #[.int .u8 0] 128) 5)) := convZ W 128
theorem make128 (w : World) : (Instr.makeSlice 51 (.int .i64 128) (.int .i64 128)).run Try.prog w = .ok (.slice (some ⟨w.heap.size, 0, none⟩) 128 128) (w.alloc (.cells (madeCells #[.int .u8 0] 128) 5)) := by
  have h : (Try.prog.info? 5).map (fun i => (i.zero, i.size, i.bytes)) = some (some (.int .u8 0), 1, 1) := by kernel_rfl
  obtain ⟨i, hi, hzz⟩ := Option.map_eq_some_iff.1 h
  simp only [Prod.mk.injEq] at hzz
  have := run_make (P := Try.prog) w 51 5 i (.int .u8 0) Try.underlying51 hi hzz.1 .i64 .i64 128 128 (by decide) (by decide) (by rw [hzz.2.2]; decide) (by decide)
  rw [hzz.2.1] at this
  exact this
theorem wl1 : joinS ⟨0, 7, 3, z128, ⟨0, 0, ⟨#[]⟩⟩, ⟨0, 0, ⟨#[]⟩⟩⟩ ⟨0, 5, 4, z128, ⟨0, 0, ⟨#[]⟩⟩, ⟨0, 0, ⟨#[]⟩⟩⟩ = ⟨1, 7, 4, ⟨#[]⟩, ⟨7, 3, z128⟩, ⟨5, 4, z128⟩⟩ := by rfl
theorem wz : z128.size = 128 := by simp [z128, strOfNums_size]
theorem wl2 : chkE ⟨1, 7, 4, ⟨#[]⟩, ⟨7, 3, z128⟩, ⟨5, 4, z128⟩⟩ = 0 := by
  have h : pairE ⟨7, 3, z128⟩ ⟨5, 4, z128⟩ = 0 := by
    unfold pairE
    rw [if_neg (by decide), if_neg (by rintro (h | h) <;> exact h wz), if_neg (by decide)]
  unfold chkE
  rw [if_neg (by decide), if_pos rfl]
  unfold clashE
  rw [if_pos h, if_pos ⟨rfl, rfl, rfl⟩]
theorem wl3 : resE ⟨1, 7, 4, ⟨#[]⟩, ⟨7, 3, z128⟩, ⟨5, 4, z128⟩⟩ 1 0 1 ⟨#[]⟩ = 0 := by
  unfold resE
  rw [if_pos wl2, if_pos rfl, if_neg (by decide), if_neg (by decide)]
  decide +kernel
theorem wl4 : resS ⟨1, 7, 4, ⟨#[]⟩, ⟨7, 3, z128⟩, ⟨5, 4, z128⟩⟩ 1 0 1 ⟨#[]⟩ = ⟨0, 7, 5, z128, ⟨0, 0, ⟨#[]⟩⟩, ⟨0, 0, ⟨#[]⟩⟩⟩ := by
  unfold resS
  rw [if_pos wl3]
  rfl
theorem join_at {x y z : St} (h : joinS x y = z) (w : World) : Calls Try.prog 10 #[SS x.k x.a x.b x.d x.x.p x.x.q x.x.d x.y.p x.y.q x.y.d, SS y.k y.a y.b y.d y.x.p y.x.q y.x.d y.y.p y.y.q y.y.d] w fun e' w' => e' = .returned (SS z.k z.a z.b z.d z.x.p z.x.q z.x.d z.y.p z.y.q z.y.d) ∧ Below w.heap.size w w' := h ▸ join_st x y w
theorem res_at {x z : St} {node boot choice E : Int} {t : ByteArray} (h : resS x node boot choice t = z) (he : resE x node boot choice t = E) (w : World) : Calls Try.prog 17 #[SS x.k x.a x.b x.d x.x.p x.x.q x.x.d x.y.p x.y.q x.y.d, .int .i64 node, .int .i64 boot, .int .i64 choice, .string t] w fun e' w' => e' = .returned (.tuple #[SS z.k z.a z.b z.d z.x.p z.x.q z.x.d z.y.p z.y.q z.y.d, .int .i64 E]) ∧ Below w.heap.size w w' := h ▸ he ▸ resolve_any x.k x.a x.b x.d x.x.p x.x.q x.x.d x.y.p x.y.q x.y.d node boot choice t w
theorem works_j (w : World) : Calls Try.prog 10 #[SS 0 7 3 z128 0 0 ⟨#[]⟩ 0 0 ⟨#[]⟩, SS 0 5 4 z128 0 0 ⟨#[]⟩ 0 0 ⟨#[]⟩] w fun e' w' => e' = .returned (SS 1 7 4 ⟨#[]⟩ 7 3 z128 5 4 z128) ∧ Below w.heap.size w w' := join_at wl1 w
theorem works_r (w : World) : Calls Try.prog 17 #[SS 1 7 4 ⟨#[]⟩ 7 3 z128 5 4 z128, .int .i64 1, .int .i64 0, .int .i64 1, .string ⟨#[]⟩] w fun e' w' => e' = .returned (.tuple #[SS 0 7 5 z128 0 0 ⟨#[]⟩ 0 0 ⟨#[]⟩, .int .i64 0]) ∧ Below w.heap.size w w' := res_at wl4 wl3 w
theorem works_c (w : World) : Calls Try.prog 11 #[SS 1 7 4 ⟨#[]⟩ 7 3 z128 5 4 z128] w fun e' w' => e' = .returned (.int .i64 0) ∧ Below w.heap.size w w' := chk_at wl2 w
set_option maxHeartbeats 6400000 in
theorem works_any (w : World) : Calls Try.prog 7 #[] w fun e w' => e = .returned (.bool true) ∧ Below w.heap.size w w' := by
  have hmk := make128
  have hcv := conv128
  have C1 := works_j
  go_enter Try.func7, Try.ntmps7
  go_wp2_with fail
  have a1 : (((w.alloc (.cells (madeCells #[.int .u8 0] 128) 5)).alloc (.cells #[.int .i64 0, .int .i64 7, .int .i64 3, .string z128, .int .i64 0, .int .i64 0, .string ⟨#[]⟩, .int .i64 0, .int .i64 0, .string ⟨#[]⟩] 27)).alloc (.cells #[.int .i64 0, .int .i64 5, .int .i64 4, .string z128, .int .i64 0, .int .i64 0, .string ⟨#[]⟩, .int .i64 0, .int .i64 0, .string ⟨#[]⟩] 27)).cell? ⟨w.heap.size + 1, 1, none⟩ = some (.int .i64 7) := by simp [go_sem]
  have a2 : (((w.alloc (.cells (madeCells #[.int .u8 0] 128) 5)).alloc (.cells #[.int .i64 0, .int .i64 7, .int .i64 3, .string z128, .int .i64 0, .int .i64 0, .string ⟨#[]⟩, .int .i64 0, .int .i64 0, .string ⟨#[]⟩] 27)).alloc (.cells #[.int .i64 0, .int .i64 5, .int .i64 4, .string z128, .int .i64 0, .int .i64 0, .string ⟨#[]⟩, .int .i64 0, .int .i64 0, .string ⟨#[]⟩] 27)).cell? ⟨w.heap.size + 1, 2, none⟩ = some (.int .i64 3) := by simp [go_sem]
  have HB : Below w.heap.size w (((w.alloc (.cells (madeCells #[.int .u8 0] 128) 5)).alloc (.cells #[.int .i64 0, .int .i64 7, .int .i64 3, .string z128, .int .i64 0, .int .i64 0, .string ⟨#[]⟩, .int .i64 0, .int .i64 0, .string ⟨#[]⟩] 27)).alloc (.cells #[.int .i64 0, .int .i64 5, .int .i64 4, .string z128, .int .i64 0, .int .i64 0, .string ⟨#[]⟩, .int .i64 0, .int .i64 0, .string ⟨#[]⟩] 27)) := ((((Below.refl _ _).alloc (Nat.le_refl _) _).alloc (by simp) _).alloc (by simp; omega) _)
  generalize (((w.alloc (.cells (madeCells #[.int .u8 0] 128) 5)).alloc (.cells #[.int .i64 0, .int .i64 7, .int .i64 3, .string z128, .int .i64 0, .int .i64 0, .string ⟨#[]⟩, .int .i64 0, .int .i64 0, .string ⟨#[]⟩] 27)).alloc (.cells #[.int .i64 0, .int .i64 5, .int .i64 4, .string z128, .int .i64 0, .int .i64 0, .string ⟨#[]⟩, .int .i64 0, .int .i64 0, .string ⟨#[]⟩] 27)) = W1 at *
  refine (works_j _).mono ?_
  rintro e' W2 ⟨rfl, hA⟩
  replace a1 := bkeep hA a1
  replace a2 := bkeep hA a2
  replace HB := bt HB hA
  clear hA hmk hcv C1
  obtain ⟨c0, c1, c2, c3, c4, c5, c6, c7, c8, c9⟩ := held10 (w := W2) (k := 1) (a := 7) (b := 4) (d := ⟨#[]⟩) (p := 7) (q := 3) (e := z128) (r := 5) (s := 4) (f := z128) 27
  have hA := (Below.refl W2.heap.size W2).alloc (Nat.le_refl _) (.cells #[.int .i64 1, .int .i64 7, .int .i64 4, .string ⟨#[]⟩, .int .i64 7, .int .i64 3, .string z128, .int .i64 5, .int .i64 4, .string z128] 27)
  replace a1 := bkeep hA a1
  replace a2 := bkeep hA a2
  replace HB := bt HB hA
  clear hA
  go_wp2_with fail
  generalize W2.alloc (.cells #[.int .i64 1, .int .i64 7, .int .i64 4, .string ⟨#[]⟩, .int .i64 7, .int .i64 3, .string z128, .int .i64 5, .int .i64 4, .string z128] 27) = W3 at *
  refine (works_r _).mono ?_
  rintro e' W4 ⟨rfl, hA⟩
  replace a1 := bkeep hA a1
  replace a2 := bkeep hA a2
  replace c0 := bkeep hA c0
  replace c1 := bkeep hA c1
  replace c2 := bkeep hA c2
  replace c3 := bkeep hA c3
  replace c4 := bkeep hA c4
  replace c5 := bkeep hA c5
  replace c6 := bkeep hA c6
  replace c7 := bkeep hA c7
  replace c8 := bkeep hA c8
  replace c9 := bkeep hA c9
  replace HB := bt HB hA
  clear hA
  obtain ⟨d0, d1, d2, d3, d4, d5, d6, d7, d8, d9⟩ := held10 (w := W4) (k := 0) (a := 7) (b := 5) (d := z128) (p := 0) (q := 0) (e := ⟨#[]⟩) (r := 0) (s := 0) (f := ⟨#[]⟩) 27
  have hA := (Below.refl W4.heap.size W4).alloc (Nat.le_refl _) (.cells #[.int .i64 0, .int .i64 7, .int .i64 5, .string z128, .int .i64 0, .int .i64 0, .string ⟨#[]⟩, .int .i64 0, .int .i64 0, .string ⟨#[]⟩] 27)
  replace a1 := bkeep hA a1
  replace a2 := bkeep hA a2
  replace c0 := bkeep hA c0
  replace c1 := bkeep hA c1
  replace c2 := bkeep hA c2
  replace c3 := bkeep hA c3
  replace c4 := bkeep hA c4
  replace c5 := bkeep hA c5
  replace c6 := bkeep hA c6
  replace c7 := bkeep hA c7
  replace c8 := bkeep hA c8
  replace c9 := bkeep hA c9
  replace HB := bt HB hA
  clear hA
  go_wp2_with fail
  refine (works_c _).mono ?_
  rintro e' W5 ⟨rfl, hA⟩
  replace HB := bt HB hA
  clear hA
  go_wp2
  go_ret
  exact ⟨rfl, HB⟩
end Go.Proofs.Ytingeahkndingaa
