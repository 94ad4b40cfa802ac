/-
  For every text of one to 3000 bytes, every place and every four bytes: turning the bytes of the text from that place on by these four changes the sum just if it changes the text; the statement's function answers true and leaves its arguments as they were.
  No condition is asked of the arguments.
-/
import Derived.Test.YtohelhodaemjfaaRows
import Derived.Test.YtohelhodaemjfaaWalksD
import Derived.Test.YtohelhodaemjfaaMine
import Derived.WalkKit
import Derived.ProofKit
import Derived.OpenShut
import Derived.ShutString
import Derived.ChangeOld
import Derived.Below
import Derived.SizedLaws
namespace Go.Proofs.Ytohelhodaemjfaa.cyclicNear
open Go.ChangeShapes Go.WideShapes Go.ChangeAt Go.RowKit
open Go.ChangeMaps (open_string shut_string)
set_option linter.unusedVariables false
theorem own : ownKnob Try.prog.godebug = none := by kernel_rfl
theorem laidOut : laidOutB Try.prog = true := by kernel_rfl
theorem flat30 : flatOf Try.prog 8 30 = some [LK.int .u8, LK.int .u8, LK.int .u8, LK.int .u8] := by kernel_rfl
theorem oks30 (l : List Value) (h : OKs [LK.int .u8, LK.int .u8, LK.int .u8, LK.int .u8] l) : ∃ (a0 : Int) (a1 : Int) (a2 : Int) (a3 : Int), l = [.int .u8 a0, .int .u8 a1, .int .u8 a2, .int .u8 a3] ∧ (Lit.int .u8 a0).wf = true ∧ (Lit.int .u8 a1).wf = true ∧ (Lit.int .u8 a2).wf = true ∧ (Lit.int .u8 a3).wf = true := by
  match l, h with
  | [c0, c1, c2, c3], h =>
    obtain ⟨⟨a0, rfl, w0⟩, ⟨a1, rfl, w1⟩, ⟨a2, rfl, w2⟩, ⟨a3, rfl, w3⟩, _⟩ := h
    exact ⟨a0, a1, a2, a3, rfl, w0, w1, w2, w3⟩
theorem agg30 {W : World} {base : Nat} {v : Value} (h : Value.okWide Try.prog W .any base 30 v) : ∃ cs, v = .agg cs := by
  simp only [Value.okWide, Try.underlying30] at h
  obtain ⟨cs, h1, _⟩ := h
  exact ⟨cs, h1⟩
set_option maxRecDepth 100000 in
theorem lifted (os : Os) (started : os.Started) (H : Type) (enc : TypeId × Value → H) :
    ReturnsInHanded {} Try.checked os 4 .any (Rows.cyclicNearSpec.pre6 enc Try.prog Try.f4 Rows.cyclicNearRow.domain false) (Rows.cyclicNearSpec.post enc Try.prog Try.f4 false true false false) := by
  refine returnsInHanded_of_change_sized (C := Try.checked) own started (by kernel_rfl) Try.func4
    (ChangeSpec.witness6 (enc := enc) (C := Try.checked) false ⟨#[], #[.string ByteArray.empty, .int .i64 0, .agg #[.int .u8 0, .int .u8 0, .int .u8 0, .int .u8 0]], []⟩ 8 (by kernel_rfl) (by kernel_rfl) (by kernel_rfl) (by kernel_rfl)) ?_
  intro W base args ds gs before hval0 hW hcnd hsz0 _
  have hsz : (DataW.weightsEach Try.prog (Try.f4.params.toList ++ Rows.cyclicNearSpec.plain.varTypes Try.prog) (ds ++ gs)).all (· ≤ reachBytes) = true := hsz0
  have hval : ∀ (j : Nat) t v, Try.f4.params[j]? = some t → args[j]? = some v → Value.okWide Try.prog W .any base t v := hval0
  have hW' := hW
  obtain ⟨p, q, hA0, hV, rfl, hfz, hnd⟩ := hW
  have hA : DataW.TrodAll enc Try.prog W 0 (fun _ => true) true Try.f4.params.toList args.toList ds p := hA0
  rw [Try.params4] at hA hval hsz
  obtain ⟨v0, vs0, d0, ds0, p0, q0, hargs, rfl, rfl, h0, r0⟩ := trodAll_cons hA
  obtain ⟨v1, vs1, d1, ds1, p1, q1, rfl, rfl, rfl, h1, r1⟩ := trodAll_cons r0
  obtain ⟨v2, vs2, d2, ds2, p2, q2, rfl, rfl, rfl, h2, r2⟩ := trodAll_cons r1
  obtain ⟨rfl, rfl, rfl⟩ := trodAll_nil r2
  obtain rfl : args = #[v0, v1, v2] := by cases args; simp_all
  obtain ⟨rfl, rfl⟩ := trodVars_none hV
  obtain ⟨a0, rfl, rfl, rfl, y0⟩ := open_string Try.underlying9 (hval 0 9 v0 rfl rfl) h0
  have w0 : a0.size ≤ 140737488351232 := by
    have z := sized_string hsz (j := 0) (t := 9) rfl rfl
    rw [Array.length_toList] at z
    exact z
  obtain ⟨a1, rfl, rfl, rfl, w1⟩ := open_int Try.underlying3 (hval 1 3 v1 rfl rfl) h1
  obtain ⟨cs2, rfl⟩ := agg30 (hval 2 30 v2 rfl rfl)
  have k2 := h2
  have lt2 : ∀ x ∈ p2, x.block < W.heap.size := by obtain ⟨m, hm⟩ := k2; exact DataW.trod_lt m _ _ _ hm
  have o2 := open_flat 8 flat30 k2
  obtain ⟨a2_0, a2_1, a2_2, a2_3, e2, w2_0, w2_1, w2_2, w2_3⟩ := oks30 _ o2
  obtain rfl : cs2 = #[.int .u8 a2_0, .int .u8 a2_1, .int .u8 a2_2, .int .u8 a2_3] := by cases cs2; simpa [Value.cells] using e2
  clear e2 o2
  clear hA0 hval0 hsz0 hsz
  refine (walk_CyclicNear a0 w0 a1 w1 a2_0 a2_1 a2_2 a2_3 w2_0 w2_1 w2_2 w2_3 (w := W)).mono fun e W' ⟨he, bel⟩ => ?_
  subst he
  exact ⟨_, rfl, _, _, _, [], _, [], hW', trodAll_mk1 (shut_bool Try.underlying4 _), (trodAll_cons_mk (shut_string Try.underlying9 y0) (trodAll_cons_mk (shut_int Try.underlying3 w1) (trodAll_cons_mk (Below.trod laidOut (by kernel_rfl) (of_decide_eq_true (by kernel_rfl)) k2 bel lt2) trodAll_mk0))), rfl, bel.frame _, fun h => by cases h⟩
theorem over : Rows.cyclicNearRow.holds Try.pinned (OpenSpec.ofChange Rows.cyclicNearSpec) :=
  OpenClaim.holds_of_wide 4 Try.f4 rfl rfl rfl rfl rfl rfl rfl ⟨rfl, rfl, rfl, rfl, rfl⟩ rfl rfl rfl rfl rfl (by kernel_rfl) Try.func4 (by kernel_rfl)
    (of_decide_eq_true (by kernel_rfl)) (by unfold Func.isWrapper; first | (rw [if_pos (by decide +kernel)]; kernel_rfl) | (rw [if_neg (by decide +kernel)]; exact ⟨rfl, rfl⟩))
    (fun os started H enc _ => lifted os started H enc)
theorem proved : Rows.CyclicNearSaid := over
end Go.Proofs.Ytohelhodaemjfaa.cyclicNear
namespace Go.Proofs.Ytohelhodaemjfaa
/-- The row, under a short name, for the claim. -/
theorem cyclicNear_holds : Rows.CyclicNearSaid := cyclicNear.proved
#print axioms cyclicNear_holds
end Go.Proofs.Ytohelhodaemjfaa
