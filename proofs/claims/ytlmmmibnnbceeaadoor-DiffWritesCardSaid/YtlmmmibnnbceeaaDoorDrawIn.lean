/-
  A region that draws its order, in the body of a range over a function: taken as it is taken outside of a fence.
-/
import Derived.Test.YtlmmmibnnbceeaaDoorDraw
import Derived.BigRegionIn
import Derived.RangeFuncCalls
namespace Go.Proofs.YtlmmmibnnbceeaaDoor
open Go.RowKit
set_option linter.unusedVariables false
set_option linter.unusedSimpArgs false
section
variable {P : Program} {ops : Array Oper} {Q : Exit → Act → World → Prop} {md : Region.Mode} {S : World → Prop} {n l : Nat}
/-- no way out by growth -/
def Held1 (Q : Exit → Act → World → Prop) : Exit → Act → World → Prop
  | .outgrown, _, _ => False
  | e, a, w => Q e a w
theorem Held1.not : ¬ LetsOut (Held1 Q) := fun ⟨_, _, h⟩ => h
theorem Held1.imp : ∀ (e : Exit) (a : Act) (w : World), Held1 Q e a w → Q e a w := fun e a w h => by
  cases e <;> first | exact h | exact (h : False).elim
theorem Held1.normal {a : Act} {w : World} (h : Q .normal a w) : Held1 Q .normal a w := h
def noDefer (ops : Array Oper) : Bool := ops.toList.all fun o => match o.op with | .defer _ => false | _ => true
theorem noDefer_spec (h : noDefer ops = true) (i : Nat) (o : Oper) (hi : ops[i]? = some o) (c) : o.op ≠ .defer c := by
  intro e
  have hm : o ∈ ops.toList := by
    obtain ⟨hlt, rfl⟩ := Array.getElem?_eq_some_iff.1 hi
    exact Array.getElem_mem_toList hlt
  have := List.all_eq_true.1 h o hm
  rw [e] at this
  cases this
theorem upon_in {o : Oper} {a : Act} {K : Act → World → Prop} (hQ : ¬ LetsOut Q) (r : Result Next) (h : o.upon P a K Q r) : o.uponIn (Fence.wide.inRound l) n P a K Q r := by
  have hd : (Fence.wide.inRound l).depth.isSome = true → 1 ≤ n := fun h => by cases h
  cases r with
  | ok x w =>
    cases x with
    | value v => exact h
    | skip => exact h
    | defer d => exact h
    | enter f args => exact ⟨hd, CallsIn.inRound l (callsIn_wide.2 h)⟩
    | row row args => exact ⟨hd, fun c cs _ => by
        obtain ⟨v, w', r, s⟩ := h c cs
        exact ⟨v, w', r, stepsIn_wide.2 s⟩⟩
    | _ => exact (h : False).elim
  | halt x w => cases x <;> exact h
theorem any_in (hnd : noDefer ops = true) (hQ : ¬ LetsOut Q) : ∀ (fuel : Nat) (listed : Array Bool) (a : Act) (w : World), wpAny P md ops Q fuel listed a w → wpAnyIn (Fence.wide.inRound l) n P md ops Q fuel listed a w
  | 0, _, _, _, h => h
  | fuel + 1, listed, a, w, h => by
    refine ⟨h.1, fun i hi => ?_⟩
    have h2 := h.2 i hi
    unfold wpOp at h2
    unfold wpOpIn
    cases ho : ops[i]? with
    | none => rw [ho] at h2; exact any_in hnd hQ fuel _ _ _ h2
    | some o =>
      rw [ho] at h2
      simp only at h2 ⊢
      by_cases hw : Region.wanted o (yielded ops a.tmps) = true
      · rw [if_pos hw] at h2 ⊢
        rcases h2 with h2 | ⟨_, h2⟩
        · refine ⟨fun _ _ => trivial, ?_⟩
          rw [Oper.semAt_eq _ _ _ (noDefer_spec hnd i o ho)]
          exact upon_in hQ _ (Oper.wp_mono (fun a' w' h' => any_in hnd hQ fuel _ a' w' h') h2)
        · exact absurd h2 hQ
      · rw [if_neg hw] at h2 ⊢
        exact ⟨fun _ _ => trivial, any_in hnd hQ fuel _ _ _ h2⟩
/-- the region in a round's body, from the region outside of any fence -/
theorem region_round {id : Nat} {a : Act} {w : World} (hm : P.follows .mixedOrders = true) (hnd : noDefer ops = true) (hS : S w.drew)
    (h : S w.drew → wpAnyH P .any ops (Held1 Q) S ops.size (Array.replicate ops.size false) a w.drew) : (Code.region id ops true).wpIn (Fence.wide.inRound l) n P Q a w :=
  Code.wpIn_mono Held1.imp (wpIn_region_any hm (any_in hnd Held1.not _ _ _ _ (wpAny_of_held _ _ _ _ (h hS))))
/-- a piece of code that comes to one end -/
def At1 (a1 : Act) (w1 : World) : Exit → Act → World → Prop
  | .normal, a, w => a = a1 ∧ w = w1
  | _, _, _ => False
theorem wp_then {c : Code} {a a1 : Act} {w w1 : World} (h : c.wp P (At1 a1 w1) a w) (hq : Q .normal a1 w1) : c.wp P Q a w :=
  Code.wp_mono (fun e a' w' h => by
    cases e <;> first | exact (h : False).elim | skip
    obtain ⟨rfl, rfl⟩ := (h : a' = a1 ∧ w' = w1)
    exact hq) h
end
end Go.Proofs.YtlmmmibnnbceeaaDoor
