/-
  No cell of these rows narrows 'for every input' (looked for: loops, veiled, ifaces, maps, wideKeys, modest, calm, conditions, laid).
  DERIVED. THE GIVEN ROWS OF THIS SEAT. 4 by the template 'for every input the law returns true; each argument reads behind the call as it read before'; 0 by the template 'total and deterministic' (their statements: YtingeahkndingaaTotals.lean).
  GIVEN WITH THE SEED: the statements are not yours to turn. If you find one false, say at which input.
  Laid BY PROGRAM, IN A SANDBOX (cutbox-rows.mjs): the forced cells as the released guide's own fill.sh prints them over the translation 67478f974b8dba18… (all of the seat's roots in one cut). By AI agents, Wed Nov 11 2026. No macro, syntax, notation, axiom, sorry.
-/
import Derived.Test.YtingeahkndingaaChecked
import GoSem.Claim
import GoSem.ClaimJoined
import GoSem.ClaimMapViews
import Derived.JoinedTies
import Derived.KernelRfl
namespace Go.Proofs.Ytingeahkndingaa
/- THE CELL 'sum', in the pinned program and in every row, IS THE sha256 OF THE DUMP (.gsa) THAT YtingeahkndingaaProg.lean LOADS. Nothing in Lean hashes anything: it is a label: what it is worth is what the hold of that sum in a sandbox is worth. -/
noncomputable def Try.pinned : Pinned := { name := "ytingeahkndingaa", sum := "67478f974b8dba1854decca4bb2efacb1c09f88b7dca1ed6daf922e5543684cb", checked := Try.checked }
namespace Rows
def none {H : Type} : Left H := { results := [], args := [] }

/-- 'solderlaw23.StateJoins': WHATEVER THE INPUT: true; the input reads as it did. -/
def stateJoinsSpec : ChangeSpec := { name := "stateJoins", fn := fun _ => fun
  | [d1, d2] => { results := [.lit (.bool true)], args := [d1, d2] }
  | _ => none }
def stateJoinsRow : OpenClaim := { program := "ytingeahkndingaa", sum := "67478f974b8dba1854decca4bb2efacb1c09f88b7dca1ed6daf922e5543684cb", func := "solder/solderlaw23.StateJoins", spec := "stateJoins", unfollowed := true, recurses := true, apart := false }
def StateJoinsSaid : Prop := stateJoinsRow.holds Try.pinned (OpenSpec.ofChange stateJoinsSpec)

/-- ITS FALSE NEIGHBOUR: 'it returns false'. Refute it at one input. -/
def stateJoinsWrong : ChangeSpec := { name := "stateJoins", fn := fun _ => fun
  | [d1, d2] => { results := [.lit (.bool false)], args := [d1, d2] }
  | _ => none }
def StateJoinsWrongFalsely : Prop := stateJoinsRow.holds Try.pinned (OpenSpec.ofChange stateJoinsWrong)

/-- 'solderlaw23.StateChanges': WHATEVER THE INPUT: true; the input reads as it did. -/
def stateChangesSpec : ChangeSpec := { name := "stateChanges", fn := fun _ => fun
  | [d1, d2] => { results := [.lit (.bool true)], args := [d1, d2] }
  | _ => none }
def stateChangesRow : OpenClaim := { program := "ytingeahkndingaa", sum := "67478f974b8dba1854decca4bb2efacb1c09f88b7dca1ed6daf922e5543684cb", func := "solder/solderlaw23.StateChanges", spec := "stateChanges", unfollowed := true, recurses := true, apart := false }
def StateChangesSaid : Prop := stateChangesRow.holds Try.pinned (OpenSpec.ofChange stateChangesSpec)

/-- ITS FALSE NEIGHBOUR: 'it returns false'. Refute it at one input. -/
def stateChangesWrong : ChangeSpec := { name := "stateChanges", fn := fun _ => fun
  | [d1, d2] => { results := [.lit (.bool false)], args := [d1, d2] }
  | _ => none }
def StateChangesWrongFalsely : Prop := stateChangesRow.holds Try.pinned (OpenSpec.ofChange stateChangesWrong)

/-- 'solderlaw23.StateMeets': WHATEVER THE INPUT: true; the input reads as it did. -/
def stateMeetsSpec : ChangeSpec := { name := "stateMeets", fn := fun _ => fun
  | [d1, d2, d3] => { results := [.lit (.bool true)], args := [d1, d2, d3] }
  | _ => none }
def stateMeetsRow : OpenClaim := { program := "ytingeahkndingaa", sum := "67478f974b8dba1854decca4bb2efacb1c09f88b7dca1ed6daf922e5543684cb", func := "solder/solderlaw23.StateMeets", spec := "stateMeets", unfollowed := true, recurses := true, apart := false }
def StateMeetsSaid : Prop := stateMeetsRow.holds Try.pinned (OpenSpec.ofChange stateMeetsSpec)

/-- ITS FALSE NEIGHBOUR: 'it returns false'. Refute it at one input. -/
def stateMeetsWrong : ChangeSpec := { name := "stateMeets", fn := fun _ => fun
  | [d1, d2, d3] => { results := [.lit (.bool false)], args := [d1, d2, d3] }
  | _ => none }
def StateMeetsWrongFalsely : Prop := stateMeetsRow.holds Try.pinned (OpenSpec.ofChange stateMeetsWrong)

/-- 'solderlaw23.StateCodes': WHATEVER THE INPUT: true; the input reads as it did. -/
def stateCodesSpec : ChangeSpec := { name := "stateCodes", fn := fun _ => fun
  | [d1, d2] => { results := [.lit (.bool true)], args := [d1, d2] }
  | _ => none }
def stateCodesRow : OpenClaim := { program := "ytingeahkndingaa", sum := "67478f974b8dba1854decca4bb2efacb1c09f88b7dca1ed6daf922e5543684cb", func := "solder/solderlaw23.StateCodes", spec := "stateCodes", unfollowed := true, recurses := true, apart := false }
def StateCodesSaid : Prop := stateCodesRow.holds Try.pinned (OpenSpec.ofChange stateCodesSpec)

/-- ITS FALSE NEIGHBOUR: 'it returns false'. Refute it at one input. -/
def stateCodesWrong : ChangeSpec := { name := "stateCodes", fn := fun _ => fun
  | [d1, d2] => { results := [.lit (.bool false)], args := [d1, d2] }
  | _ => none }
def StateCodesWrongFalsely : Prop := stateCodesRow.holds Try.pinned (OpenSpec.ofChange stateCodesWrong)

/- THE SECOND FORM. 'bulk': how many values and letters a reading holds, each counted each time it is reached (what is shared counts as often as it is met; a slice's spare places count too). A statement '..UptoSaid' is the law's where the arguments, and the package variables that the reading takes, are together of bulk at most 1048576: NARROWER than '..Said'. Prove '..Said' where nothing that the law and all that it calls make is longer than what came in: it says more and counts as full. Else prove '..UptoSaid'. A law counts once. -/
mutual
def uptoBulk {H : Type} : DataW H → Nat
  | .lit (.string bytes) => bytes.length + 1
  | .lit _ => 1
  | .nil => 1
  | .ptr d => uptoBulk d + 1
  | .slice elems spare => uptoBulkAll elems + uptoBulkAll spare + 1
  | .agg parts => uptoBulkAll parts + 1
  | .iface _ d => uptoBulk d + 1
  | .map entries => uptoBulkEntries entries + 1
  | .held _ => 1
def uptoBulkAll {H : Type} : List (DataW H) → Nat
  | [] => 0
  | d :: r => uptoBulk d + uptoBulkAll r
def uptoBulkEntries {H : Type} : List (Lit × DataW H) → Nat
  | [] => 0
  | x :: r => uptoBulkEntry x + uptoBulkEntries r
def uptoBulkEntry {H : Type} : Lit × DataW H → Nat
  | (.string bytes, d) => bytes.length + uptoBulk d + 1
  | (_, d) => uptoBulk d + 1
 end
def uptoSmall : (H : Type) → List (DataW H) → Bool := fun _ ds => decide (uptoBulkAll ds ≤ 1048576)
def OpenSpec.upto (s : _root_.Go.ChangeSpec) : _root_.Go.OpenSpec := { _root_.Go.OpenSpec.ofChange s with cond := some uptoSmall }

/-- 'solderlaw23.StateJoins', WHERE WHAT IT READS IS OF BULK AT MOST 1048576: true; the input reads as it did. -/
def stateJoinsUptoRow : OpenClaim := { program := "ytingeahkndingaa", sum := "67478f974b8dba1854decca4bb2efacb1c09f88b7dca1ed6daf922e5543684cb", func := "solder/solderlaw23.StateJoins", spec := "stateJoins", unfollowed := true, recurses := true, apart := false, narrowed := true }
def StateJoinsUptoSaid : Prop := stateJoinsUptoRow.holds Try.pinned (OpenSpec.upto stateJoinsSpec)

/-- 'solderlaw23.StateChanges', WHERE WHAT IT READS IS OF BULK AT MOST 1048576: true; the input reads as it did. -/
def stateChangesUptoRow : OpenClaim := { program := "ytingeahkndingaa", sum := "67478f974b8dba1854decca4bb2efacb1c09f88b7dca1ed6daf922e5543684cb", func := "solder/solderlaw23.StateChanges", spec := "stateChanges", unfollowed := true, recurses := true, apart := false, narrowed := true }
def StateChangesUptoSaid : Prop := stateChangesUptoRow.holds Try.pinned (OpenSpec.upto stateChangesSpec)

/-- 'solderlaw23.StateMeets', WHERE WHAT IT READS IS OF BULK AT MOST 1048576: true; the input reads as it did. -/
def stateMeetsUptoRow : OpenClaim := { program := "ytingeahkndingaa", sum := "67478f974b8dba1854decca4bb2efacb1c09f88b7dca1ed6daf922e5543684cb", func := "solder/solderlaw23.StateMeets", spec := "stateMeets", unfollowed := true, recurses := true, apart := false, narrowed := true }
def StateMeetsUptoSaid : Prop := stateMeetsUptoRow.holds Try.pinned (OpenSpec.upto stateMeetsSpec)

/-- 'solderlaw23.StateCodes', WHERE WHAT IT READS IS OF BULK AT MOST 1048576: true; the input reads as it did. -/
def stateCodesUptoRow : OpenClaim := { program := "ytingeahkndingaa", sum := "67478f974b8dba1854decca4bb2efacb1c09f88b7dca1ed6daf922e5543684cb", func := "solder/solderlaw23.StateCodes", spec := "stateCodes", unfollowed := true, recurses := true, apart := false, narrowed := true }
def StateCodesUptoSaid : Prop := stateCodesUptoRow.holds Try.pinned (OpenSpec.upto stateCodesSpec)

end Rows
end Go.Proofs.Ytingeahkndingaa
