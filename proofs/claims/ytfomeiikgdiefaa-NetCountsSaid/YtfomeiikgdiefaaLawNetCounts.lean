/-
  Nothing from nowhere: each frame arrives as often as it was put and doubled, at most, and what is lost does not.
  No condition is asked of the arguments.
-/
import Derived.Test.YtfomeiikgdiefaaRows
import Derived.Test.YtfomeiikgdiefaaNetCounts
import Derived.Test.YtfomeiikgdiefaaMine
import Derived.WalkKit
import Derived.ProofKit
import Derived.OpenShut
import Derived.ShutString
import Derived.ChangeOld
import Derived.Below
import Derived.SizedLaws
namespace Go.Proofs.Ytfomeiikgdiefaa.netCounts
open Go.ChangeShapes Go.WideShapes Go.ChangeAt Go.RowKit
open Go.ChangeMaps (open_string shut_string)
set_option linter.unusedVariables false
theorem own : ownKnob Try.prog.godebug = none := by kernel_rfl
theorem laidOut : laidOutB Try.prog = true := by kernel_rfl
theorem flat32 : flatOf Try.prog 8 32 = some [LK.int .i64, LK.str] := by kernel_rfl
theorem oks32 (l : List Value) (h : OKs [LK.int .i64, LK.str] l) : ∃ (a0 : Int) (a1 : ByteArray), l = [.int .i64 a0, .string a1] ∧ (Lit.int .i64 a0).wf = true ∧ a1.size ≤ maxLen := by
  obtain ⟨c0, r0, rfl, h0, h⟩ := OKs.cons h
  obtain ⟨c1, r1, rfl, h1, h⟩ := OKs.cons h
  obtain rfl := OKs.nil h
  obtain ⟨a0, rfl, w0⟩ := h0
  obtain ⟨a1, rfl, w1⟩ := h1
  exact ⟨a0, a1, rfl, w0, w1⟩
theorem agg32 {W : World} {base : Nat} {v : Value} (h : Value.okWide Try.prog W .any base 32 v) : ∃ cs, v = .agg cs := by
  obtain ⟨cs, h1, _⟩ := okWide_struct Try.underlying32 h
  exact ⟨cs, h1⟩
set_option maxRecDepth 100000 in
theorem lifted (os : Os) (started : os.Started) (H : Type) (enc : TypeId × Value → H) :
    ReturnsInHanded {} Try.checked os 4 .any (Rows.netCountsSpec.pre6 enc Try.prog Try.f4 Rows.netCountsRow.domain false) (Rows.netCountsSpec.post enc Try.prog Try.f4 false true false false) := by
  refine returnsInHanded_of_change_sized (C := Try.checked) own started (by kernel_rfl) Try.func4
    (ChangeSpec.witness6 (enc := enc) (C := Try.checked) false ⟨#[], #[.slice none 0 0, .agg #[.int .i64 0, .string ByteArray.empty]], []⟩ 8 (by kernel_rfl) (by kernel_rfl) (by kernel_rfl) (by kernel_rfl)) ?_
  intro W base args ds gs before hval0 hW hcnd hsz0 _
  have hsz : (DataW.weightsEach Try.prog (Try.f4.params.toList ++ Rows.netCountsSpec.plain.varTypes Try.prog) (ds ++ gs)).all (· ≤ reachBytes) = true := hsz0
  have hval : ∀ (j : Nat) t v, Try.f4.params[j]? = some t → args[j]? = some v → Value.okWide Try.prog W .any base t v := hval0
  have hW' := hW
  obtain ⟨p, q, hA0, hV, rfl, hfz, hnd⟩ := hW
  have hA : DataW.TrodAll enc Try.prog W 0 (fun _ => true) true Try.f4.params.toList args.toList ds p := hA0
  rw [Try.params4] at hA hval hsz
  obtain ⟨v0, vs0, d0, ds0, p0, q0, hargs, rfl, rfl, h0, r0⟩ := trodAll_cons hA
  obtain ⟨v1, vs1, d1, ds1, p1, q1, rfl, rfl, rfl, h1, r1⟩ := trodAll_cons r0
  obtain ⟨rfl, rfl, rfl⟩ := trodAll_nil r1
  obtain rfl : args = #[v0, v1] := by cases args; simp_all
  obtain ⟨rfl, rfl⟩ := trodVars_none hV
  obtain ⟨a0, len0, cap0, rfl⟩ := okWide_slice Try.underlying22 (hval 0 22 v0 rfl rfl)
  have k0 := h0
  have lt0 : ∀ x ∈ p0, x.block < W.heap.size := by obtain ⟨m, hm⟩ := k0; exact DataW.trod_lt m _ _ _ hm
  obtain ⟨l0, w0⟩ := open_list (α := NOp) 8 Try.underlying22 (e := 34) (ks := [LK.int .i64, LK.int .i64, LK.int .i64, LK.str]) (by kernel_rfl) (by kernel_rfl) (by decide) nopE nopOk nop_of (fun _ => rfl) k0
  obtain ⟨cs1, rfl⟩ := agg32 (hval 1 32 v1 rfl rfl)
  have k1 := h1
  have lt1 : ∀ x ∈ p1, x.block < W.heap.size := by obtain ⟨m, hm⟩ := k1; exact DataW.trod_lt m _ _ _ hm
  have o1 := open_flat 8 flat32 k1
  obtain ⟨a1_0, a1_1, e1, w1_0, w1_1⟩ := oks32 _ o1
  obtain rfl : cs1 = #[.int .i64 a1_0, .string a1_1] := by cases cs1; simpa [Value.cells] using e1
  clear e1 o1
  clear hA0 hval0 hsz0 hsz
  refine (walk_NetCounts a0 len0 cap0 l0 w0 a1_0 a1_1 w1_0 w1_1 (w := W)).mono fun e W' ⟨he, bel⟩ => ?_
  subst he
  exact ⟨_, rfl, _, _, _, [], _, [], hW', trodAll_mk1 (shut_bool Try.underlying4 _), (trodAll_cons_mk (Below.trod laidOut (by kernel_rfl) (of_decide_eq_true (by kernel_rfl)) k0 bel lt0) (trodAll_cons_mk (Below.trod laidOut (by kernel_rfl) (of_decide_eq_true (by kernel_rfl)) k1 bel lt1) trodAll_mk0)), rfl, bel.frame _, fun h => by cases h⟩
theorem over : Rows.netCountsRow.holds Try.pinned (OpenSpec.ofChange Rows.netCountsSpec) :=
  OpenClaim.holds_of_wide 4 Try.f4 rfl rfl rfl rfl rfl rfl rfl ⟨rfl, rfl, rfl, rfl, rfl⟩ rfl rfl rfl rfl rfl (by kernel_rfl) Try.func4 (by kernel_rfl)
    (of_decide_eq_true (by kernel_rfl)) (by unfold Func.isWrapper; first | (rw [if_pos (by decide +kernel)]; kernel_rfl) | (rw [if_neg (by decide +kernel)]; exact ⟨rfl, rfl⟩))
    (fun os started H enc _ => lifted os started H enc)
theorem proved : Rows.NetCountsSaid := over
end Go.Proofs.Ytfomeiikgdiefaa.netCounts
namespace Go.Proofs.Ytfomeiikgdiefaa
/-- The row, under a short name, for the claim. -/
theorem netCounts_holds : Rows.NetCountsSaid := netCounts.proved
#print axioms netCounts_holds
end Go.Proofs.Ytfomeiikgdiefaa
