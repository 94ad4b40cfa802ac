/-
  No cell of these rows narrows 'for every input' (looked for: loops, veiled, ifaces, maps, wideKeys, modest, calm, conditions, laid).
  DERIVED. THE GIVEN ROWS OF THIS SEAT. 4 by the template 'for every input the law returns true; each argument reads behind the call as it read before'; 0 by the template 'total and deterministic' (their statements: YtlmmmibnnbceeaaTotals.lean).
  GIVEN WITH THE SEED: the statements are not yours to turn. If you find one false, say at which input.
  Laid BY PROGRAM, IN A SANDBOX (cutbox-rows.mjs): the forced cells as the released guide's own fill.sh prints them over the translation ecd88e0a784bf918… (all of the seat's roots in one cut). By AI agents, Wed Nov 11 2026. No macro, syntax, notation, axiom, sorry.
-/
import Derived.Test.YtlmmmibnnbceeaaChecked
import GoSem.Claim
import GoSem.ClaimJoined
import GoSem.ClaimMapViews
import Derived.JoinedTies
import Derived.KernelRfl
namespace Go.Proofs.Ytlmmmibnnbceeaa
/- THE CELL 'sum', in the pinned program and in every row, IS THE sha256 OF THE DUMP (.gsa) THAT YtlmmmibnnbceeaaProg.lean LOADS. Nothing in Lean hashes anything: it is a label: what it is worth is what the hold of that sum in a sandbox is worth. -/
noncomputable def Try.pinned : Pinned := { name := "ytlmmmibnnbceeaa", sum := "ecd88e0a784bf918a9b1127ca7169f42bdc861862194d68df6af4eced70a8085", checked := Try.checked }
namespace Rows
def none {H : Type} : Left H := { results := [], args := [] }

/-- 'solderlaw41.DiffSpans': WHATEVER THE INPUT: true; the input reads as it did. -/
def diffSpansSpec : ChangeSpec := { name := "diffSpans", fn := fun _ => fun
  | [d1, d2] => { results := [.lit (.bool true)], args := [d1, d2] }
  | _ => none }
def diffSpansRow : OpenClaim := { program := "ytlmmmibnnbceeaa", sum := "ecd88e0a784bf918a9b1127ca7169f42bdc861862194d68df6af4eced70a8085", func := "solder/solderlaw41.DiffSpans", spec := "diffSpans", unfollowed := true, recurses := true, apart := false }
def DiffSpansSaid : Prop := diffSpansRow.holds Try.pinned (OpenSpec.ofChange diffSpansSpec)

/-- ITS FALSE NEIGHBOUR: 'it returns false'. Refute it at one input. -/
def diffSpansWrong : ChangeSpec := { name := "diffSpans", fn := fun _ => fun
  | [d1, d2] => { results := [.lit (.bool false)], args := [d1, d2] }
  | _ => none }
def DiffSpansWrongFalsely : Prop := diffSpansRow.holds Try.pinned (OpenSpec.ofChange diffSpansWrong)

/-- 'solderlaw41.DiffMerges': WHATEVER THE INPUT: true; the input reads as it did. -/
def diffMergesSpec : ChangeSpec := { name := "diffMerges", fn := fun _ => fun
  | [d1, d2, d3] => { results := [.lit (.bool true)], args := [d1, d2, d3] }
  | _ => none }
def diffMergesRow : OpenClaim := { program := "ytlmmmibnnbceeaa", sum := "ecd88e0a784bf918a9b1127ca7169f42bdc861862194d68df6af4eced70a8085", func := "solder/solderlaw41.DiffMerges", spec := "diffMerges", unfollowed := true, recurses := true, apart := false }
def DiffMergesSaid : Prop := diffMergesRow.holds Try.pinned (OpenSpec.ofChange diffMergesSpec)

/-- ITS FALSE NEIGHBOUR: 'it returns false'. Refute it at one input. -/
def diffMergesWrong : ChangeSpec := { name := "diffMerges", fn := fun _ => fun
  | [d1, d2, d3] => { results := [.lit (.bool false)], args := [d1, d2, d3] }
  | _ => none }
def DiffMergesWrongFalsely : Prop := diffMergesRow.holds Try.pinned (OpenSpec.ofChange diffMergesWrong)

/-- 'solderlaw41.DiffComposes': WHATEVER THE INPUT: true; the input reads as it did. -/
def diffComposesSpec : ChangeSpec := { name := "diffComposes", fn := fun _ => fun
  | [d1, d2, d3, d4] => { results := [.lit (.bool true)], args := [d1, d2, d3, d4] }
  | _ => none }
def diffComposesRow : OpenClaim := { program := "ytlmmmibnnbceeaa", sum := "ecd88e0a784bf918a9b1127ca7169f42bdc861862194d68df6af4eced70a8085", func := "solder/solderlaw41.DiffComposes", spec := "diffComposes", inPlace := ["internal/abi.NoEscape"], unfollowed := true, recurses := true, apart := false }
def DiffComposesSaid : Prop := diffComposesRow.holds Try.pinned (OpenSpec.ofChange diffComposesSpec)

/-- ITS FALSE NEIGHBOUR: 'it returns false'. Refute it at one input. -/
def diffComposesWrong : ChangeSpec := { name := "diffComposes", fn := fun _ => fun
  | [d1, d2, d3, d4] => { results := [.lit (.bool false)], args := [d1, d2, d3, d4] }
  | _ => none }
def DiffComposesWrongFalsely : Prop := diffComposesRow.holds Try.pinned (OpenSpec.ofChange diffComposesWrong)

/-- 'solderlaw41.DiffBoth': WHATEVER THE INPUT: true; the input reads as it did. -/
def diffBothSpec : ChangeSpec := { name := "diffBoth", fn := fun _ => fun
  | [d1, d2, d3] => { results := [.lit (.bool true)], args := [d1, d2, d3] }
  | _ => none }
def diffBothRow : OpenClaim := { program := "ytlmmmibnnbceeaa", sum := "ecd88e0a784bf918a9b1127ca7169f42bdc861862194d68df6af4eced70a8085", func := "solder/solderlaw41.DiffBoth", spec := "diffBoth", inPlace := ["internal/abi.NoEscape"], unfollowed := true, recurses := true, apart := false }
def DiffBothSaid : Prop := diffBothRow.holds Try.pinned (OpenSpec.ofChange diffBothSpec)

/-- ITS FALSE NEIGHBOUR: 'it returns false'. Refute it at one input. -/
def diffBothWrong : ChangeSpec := { name := "diffBoth", fn := fun _ => fun
  | [d1, d2, d3] => { results := [.lit (.bool false)], args := [d1, d2, d3] }
  | _ => none }
def DiffBothWrongFalsely : Prop := diffBothRow.holds Try.pinned (OpenSpec.ofChange diffBothWrong)

/- THE SECOND FORM. 'bulk': how many values and letters a reading holds, each counted each time it is reached (what is shared counts as often as it is met; a slice's spare places count too). A statement '..UptoSaid' is the law's where the arguments, and the package variables that the reading takes, are together of bulk at most 1048576: NARROWER than '..Said'. Prove '..Said' where nothing that the law and all that it calls make is longer than what came in: it says more and counts as full. Else prove '..UptoSaid'. A law counts once. -/
mutual
def uptoBulk {H : Type} : DataW H → Nat
  | .lit (.string bytes) => bytes.length + 1
  | .lit _ => 1
  | .nil => 1
  | .ptr d => uptoBulk d + 1
  | .slice elems spare => uptoBulkAll elems + uptoBulkAll spare + 1
  | .agg parts => uptoBulkAll parts + 1
  | .iface _ d => uptoBulk d + 1
  | .map entries => uptoBulkEntries entries + 1
  | .held _ => 1
def uptoBulkAll {H : Type} : List (DataW H) → Nat
  | [] => 0
  | d :: r => uptoBulk d + uptoBulkAll r
def uptoBulkEntries {H : Type} : List (Lit × DataW H) → Nat
  | [] => 0
  | x :: r => uptoBulkEntry x + uptoBulkEntries r
def uptoBulkEntry {H : Type} : Lit × DataW H → Nat
  | (.string bytes, d) => bytes.length + uptoBulk d + 1
  | (_, d) => uptoBulk d + 1
 end
def uptoSmall : (H : Type) → List (DataW H) → Bool := fun _ ds => decide (uptoBulkAll ds ≤ 1048576)
def OpenSpec.upto (s : _root_.Go.ChangeSpec) : _root_.Go.OpenSpec := { _root_.Go.OpenSpec.ofChange s with cond := some uptoSmall }

/-- 'solderlaw41.DiffSpans', WHERE WHAT IT READS IS OF BULK AT MOST 1048576: true; the input reads as it did. -/
def diffSpansUptoRow : OpenClaim := { program := "ytlmmmibnnbceeaa", sum := "ecd88e0a784bf918a9b1127ca7169f42bdc861862194d68df6af4eced70a8085", func := "solder/solderlaw41.DiffSpans", spec := "diffSpans", unfollowed := true, recurses := true, apart := false, narrowed := true }
def DiffSpansUptoSaid : Prop := diffSpansUptoRow.holds Try.pinned (OpenSpec.upto diffSpansSpec)

/-- 'solderlaw41.DiffMerges', WHERE WHAT IT READS IS OF BULK AT MOST 1048576: true; the input reads as it did. -/
def diffMergesUptoRow : OpenClaim := { program := "ytlmmmibnnbceeaa", sum := "ecd88e0a784bf918a9b1127ca7169f42bdc861862194d68df6af4eced70a8085", func := "solder/solderlaw41.DiffMerges", spec := "diffMerges", unfollowed := true, recurses := true, apart := false, narrowed := true }
def DiffMergesUptoSaid : Prop := diffMergesUptoRow.holds Try.pinned (OpenSpec.upto diffMergesSpec)

/-- 'solderlaw41.DiffComposes', WHERE WHAT IT READS IS OF BULK AT MOST 1048576: true; the input reads as it did. -/
def diffComposesUptoRow : OpenClaim := { program := "ytlmmmibnnbceeaa", sum := "ecd88e0a784bf918a9b1127ca7169f42bdc861862194d68df6af4eced70a8085", func := "solder/solderlaw41.DiffComposes", spec := "diffComposes", inPlace := ["internal/abi.NoEscape"], unfollowed := true, recurses := true, apart := false, narrowed := true }
def DiffComposesUptoSaid : Prop := diffComposesUptoRow.holds Try.pinned (OpenSpec.upto diffComposesSpec)

/-- 'solderlaw41.DiffBoth', WHERE WHAT IT READS IS OF BULK AT MOST 1048576: true; the input reads as it did. -/
def diffBothUptoRow : OpenClaim := { program := "ytlmmmibnnbceeaa", sum := "ecd88e0a784bf918a9b1127ca7169f42bdc861862194d68df6af4eced70a8085", func := "solder/solderlaw41.DiffBoth", spec := "diffBoth", inPlace := ["internal/abi.NoEscape"], unfollowed := true, recurses := true, apart := false, narrowed := true }
def DiffBothUptoSaid : Prop := diffBothUptoRow.holds Try.pinned (OpenSpec.upto diffBothSpec)

end Rows
end Go.Proofs.Ytlmmmibnnbceeaa
