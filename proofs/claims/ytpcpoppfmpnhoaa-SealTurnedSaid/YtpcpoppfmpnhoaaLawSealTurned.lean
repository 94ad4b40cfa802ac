/-
  Of sealed bytes, if some that stand within four in a row are other ones, nothing is got; nor of fewer, or more of them.
  No condition is asked of the arguments.
-/
import Derived.Test.YtpcpoppfmpnhoaaRows
import Derived.Test.YtpcpoppfmpnhoaaSealTurn
import Derived.Test.YtpcpoppfmpnhoaaMine
import Derived.WalkKit
import Derived.ProofKit
import Derived.OpenShut
import Derived.ShutString
import Derived.ChangeOld
import Derived.Below
import Derived.SizedLaws
namespace Go.Proofs.Ytpcpoppfmpnhoaa.sealTurned
open Go.ChangeShapes Go.WideShapes Go.ChangeAt Go.RowKit
open Go.ChangeMaps (open_string shut_string)
set_option linter.unusedVariables false
theorem own : ownKnob Try.prog.godebug = none := by kernel_rfl
theorem laidOut : laidOutB Try.prog = true := by kernel_rfl
theorem flat33 : flatOf Try.prog 8 33 = some [LK.int .u8, LK.int .u8, LK.int .u8, LK.int .u8] := by kernel_rfl
theorem oks33 (l : List Value) (h : OKs [LK.int .u8, LK.int .u8, LK.int .u8, LK.int .u8] l) : ∃ (a0 : Int) (a1 : Int) (a2 : Int) (a3 : Int), l = [.int .u8 a0, .int .u8 a1, .int .u8 a2, .int .u8 a3] ∧ (Lit.int .u8 a0).wf = true ∧ (Lit.int .u8 a1).wf = true ∧ (Lit.int .u8 a2).wf = true ∧ (Lit.int .u8 a3).wf = true := by
  obtain ⟨c0, r0, rfl, h0, h⟩ := OKs.cons h
  obtain ⟨c1, r1, rfl, h1, h⟩ := OKs.cons h
  obtain ⟨c2, r2, rfl, h2, h⟩ := OKs.cons h
  obtain ⟨c3, r3, rfl, h3, h⟩ := OKs.cons h
  obtain rfl := OKs.nil h
  obtain ⟨a0, rfl, w0⟩ := h0
  obtain ⟨a1, rfl, w1⟩ := h1
  obtain ⟨a2, rfl, w2⟩ := h2
  obtain ⟨a3, rfl, w3⟩ := h3
  exact ⟨a0, a1, a2, a3, rfl, w0, w1, w2, w3⟩
theorem agg33 {W : World} {base : Nat} {v : Value} (h : Value.okWide Try.prog W .any base 33 v) : ∃ cs, v = .agg cs := by
  simp only [Value.okWide, Try.underlying33] at h
  obtain ⟨cs, h1, _⟩ := h
  exact ⟨cs, h1⟩
set_option maxRecDepth 100000 in
theorem lifted (os : Os) (started : os.Started) (H : Type) (enc : TypeId × Value → H) :
    ReturnsInHanded {} Try.checked os 6 .any (Rows.sealTurnedSpec.pre6 enc Try.prog Try.f6 Rows.sealTurnedRow.domain false) (Rows.sealTurnedSpec.post enc Try.prog Try.f6 false true false false) := by
  refine returnsInHanded_of_change_sized (C := Try.checked) own started (by kernel_rfl) Try.func6
    (ChangeSpec.witness6 (enc := enc) (C := Try.checked) false ⟨#[], #[.int .i64 0, .string ByteArray.empty, .int .i64 0, .agg #[.int .u8 0, .int .u8 0, .int .u8 0, .int .u8 0]], []⟩ 8 (by kernel_rfl) (by kernel_rfl) (by kernel_rfl) (by kernel_rfl)) ?_
  intro W base args ds gs before hval0 hW hcnd hsz0 _
  have hsz : (DataW.weightsEach Try.prog (Try.f6.params.toList ++ Rows.sealTurnedSpec.plain.varTypes Try.prog) (ds ++ gs)).all (· ≤ reachBytes) = true := hsz0
  have hval : ∀ (j : Nat) t v, Try.f6.params[j]? = some t → args[j]? = some v → Value.okWide Try.prog W .any base t v := hval0
  have hW' := hW
  obtain ⟨p, q, hA0, hV, rfl, hfz, hnd⟩ := hW
  have hA : DataW.TrodAll enc Try.prog W 0 (fun _ => true) true Try.f6.params.toList args.toList ds p := hA0
  rw [Try.params6] at hA hval hsz
  obtain ⟨v0, vs0, d0, ds0, p0, q0, hargs, rfl, rfl, h0, r0⟩ := trodAll_cons hA
  obtain ⟨v1, vs1, d1, ds1, p1, q1, rfl, rfl, rfl, h1, r1⟩ := trodAll_cons r0
  obtain ⟨v2, vs2, d2, ds2, p2, q2, rfl, rfl, rfl, h2, r2⟩ := trodAll_cons r1
  obtain ⟨v3, vs3, d3, ds3, p3, q3, rfl, rfl, rfl, h3, r3⟩ := trodAll_cons r2
  obtain ⟨rfl, rfl, rfl⟩ := trodAll_nil r3
  obtain rfl : args = #[v0, v1, v2, v3] := by cases args; simp_all
  obtain ⟨rfl, rfl⟩ := trodVars_none hV
  obtain ⟨a0, rfl, rfl, rfl, w0⟩ := open_int Try.underlying3 (hval 0 3 v0 rfl rfl) h0
  obtain ⟨a1, rfl, rfl, rfl, y1⟩ := open_string Try.underlying9 (hval 1 9 v1 rfl rfl) h1
  have w1 : a1.size ≤ 140737488351232 := by
    have z := sized_string hsz (j := 1) (t := 9) rfl rfl
    rw [Array.length_toList] at z
    exact z
  obtain ⟨a2, rfl, rfl, rfl, w2⟩ := open_int Try.underlying3 (hval 2 3 v2 rfl rfl) h2
  obtain ⟨cs3, rfl⟩ := agg33 (hval 3 33 v3 rfl rfl)
  have k3 := h3
  have lt3 : ∀ x ∈ p3, x.block < W.heap.size := by obtain ⟨m, hm⟩ := k3; exact DataW.trod_lt m _ _ _ hm
  have o3 := open_flat 8 flat33 k3
  obtain ⟨a3_0, a3_1, a3_2, a3_3, e3, w3_0, w3_1, w3_2, w3_3⟩ := oks33 _ o3
  obtain rfl : cs3 = #[.int .u8 a3_0, .int .u8 a3_1, .int .u8 a3_2, .int .u8 a3_3] := by cases cs3; simpa [Value.cells] using e3
  clear e3 o3
  clear hA0 hval0 hsz0 hsz
  refine (walk_SealTurned a0 w0 a1 w1 a2 w2 a3_0 a3_1 a3_2 a3_3 w3_0 w3_1 w3_2 w3_3 (w := W)).mono fun e W' ⟨he, bel⟩ => ?_
  subst he
  exact ⟨_, rfl, _, _, _, [], _, [], hW', trodAll_mk1 (shut_bool Try.underlying4 _), (trodAll_cons_mk (shut_int Try.underlying3 w0) (trodAll_cons_mk (shut_string Try.underlying9 y1) (trodAll_cons_mk (shut_int Try.underlying3 w2) (trodAll_cons_mk (Below.trod laidOut (by kernel_rfl) (of_decide_eq_true (by kernel_rfl)) k3 bel lt3) trodAll_mk0)))), rfl, bel.frame _, fun h => by cases h⟩
theorem over : Rows.sealTurnedRow.holds Try.pinned (OpenSpec.ofChange Rows.sealTurnedSpec) :=
  OpenClaim.holds_of_wide 6 Try.f6 rfl rfl rfl rfl rfl rfl rfl ⟨rfl, rfl, rfl, rfl, rfl⟩ rfl rfl rfl rfl rfl (by kernel_rfl) Try.func6 (by kernel_rfl)
    (of_decide_eq_true (by kernel_rfl)) (by unfold Func.isWrapper; first | (rw [if_pos (by decide +kernel)]; kernel_rfl) | (rw [if_neg (by decide +kernel)]; exact ⟨rfl, rfl⟩))
    (fun os started H enc _ => lifted os started H enc)
theorem proved : Rows.SealTurnedSaid := over
end Go.Proofs.Ytpcpoppfmpnhoaa.sealTurned
namespace Go.Proofs.Ytpcpoppfmpnhoaa
/-- The row, under a short name, for the claim. -/
theorem sealTurned_holds : Rows.SealTurnedSaid := sealTurned.proved
#print axioms sealTurned_holds
end Go.Proofs.Ytpcpoppfmpnhoaa
