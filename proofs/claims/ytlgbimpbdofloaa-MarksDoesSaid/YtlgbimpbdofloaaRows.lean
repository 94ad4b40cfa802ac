/-
  No cell of these rows narrows 'for every input' (looked for: loops, veiled, ifaces, maps, wideKeys, modest, calm, conditions, laid).
  DERIVED. THE GIVEN ROWS OF THIS SEAT. 4 by the template 'for every input the law returns true; each argument reads behind the call as it read before'; 0 by the template 'total and deterministic' (their statements: YtlgbimpbdofloaaTotals.lean).
  GIVEN WITH THE SEED: the statements are not yours to turn. If you find one false, say at which input.
  Laid BY PROGRAM, IN A SANDBOX (cutbox-rows.mjs): the forced cells as the released guide's own fill.sh prints them over the translation 031cf3fc93816f61… (all of the seat's roots in one cut). By AI agents, Wed Nov 11 2026. No macro, syntax, notation, axiom, sorry.
-/
import Derived.Test.YtlgbimpbdofloaaChecked
import GoSem.Claim
import GoSem.ClaimJoined
import GoSem.ClaimMapViews
import Derived.JoinedTies
import Derived.KernelRfl
namespace Go.Proofs.Ytlgbimpbdofloaa
/- THE CELL 'sum', in the pinned program and in every row, IS THE sha256 OF THE DUMP (.gsa) THAT YtlgbimpbdofloaaProg.lean LOADS. Nothing in Lean hashes anything: it is a label: what it is worth is what the hold of that sum in a sandbox is worth. -/
noncomputable def Try.pinned : Pinned := { name := "ytlgbimpbdofloaa", sum := "031cf3fc93816f6180316f3e183b1381085e305b47795e0b4ef291f8df2b1633", checked := Try.checked }
namespace Rows
def none {H : Type} : Left H := { results := [], args := [] }

/-- 'solderlaw07.MarksBack': WHATEVER THE INPUT: true; the input reads as it did. -/
def marksBackSpec : ChangeSpec := { name := "marksBack", fn := fun _ => fun
  | [d1, d2] => { results := [.lit (.bool true)], args := [d1, d2] }
  | _ => none }
def marksBackRow : OpenClaim := { program := "ytlgbimpbdofloaa", sum := "031cf3fc93816f6180316f3e183b1381085e305b47795e0b4ef291f8df2b1633", func := "solder/solderlaw07.MarksBack", spec := "marksBack", unfollowed := true, recurses := true, apart := false }
def MarksBackSaid : Prop := marksBackRow.holds Try.pinned (OpenSpec.ofChange marksBackSpec)

/-- ITS FALSE NEIGHBOUR: 'it returns false'. Refute it at one input. -/
def marksBackWrong : ChangeSpec := { name := "marksBack", fn := fun _ => fun
  | [d1, d2] => { results := [.lit (.bool false)], args := [d1, d2] }
  | _ => none }
def MarksBackWrongFalsely : Prop := marksBackRow.holds Try.pinned (OpenSpec.ofChange marksBackWrong)

/-- 'solderlaw07.MarksReads': WHATEVER THE INPUT: true; the input reads as it did. -/
def marksReadsSpec : ChangeSpec := { name := "marksReads", fn := fun _ => fun
  | [d1, d2] => { results := [.lit (.bool true)], args := [d1, d2] }
  | _ => none }
def marksReadsRow : OpenClaim := { program := "ytlgbimpbdofloaa", sum := "031cf3fc93816f6180316f3e183b1381085e305b47795e0b4ef291f8df2b1633", func := "solder/solderlaw07.MarksReads", spec := "marksReads", unfollowed := true, recurses := true, apart := false }
def MarksReadsSaid : Prop := marksReadsRow.holds Try.pinned (OpenSpec.ofChange marksReadsSpec)

/-- ITS FALSE NEIGHBOUR: 'it returns false'. Refute it at one input. -/
def marksReadsWrong : ChangeSpec := { name := "marksReads", fn := fun _ => fun
  | [d1, d2] => { results := [.lit (.bool false)], args := [d1, d2] }
  | _ => none }
def MarksReadsWrongFalsely : Prop := marksReadsRow.holds Try.pinned (OpenSpec.ofChange marksReadsWrong)

/-- 'solderlaw07.MarksDoes': WHATEVER THE INPUT: true; the input reads as it did. -/
def marksDoesSpec : ChangeSpec := { name := "marksDoes", fn := fun _ => fun
  | [d1, d2] => { results := [.lit (.bool true)], args := [d1, d2] }
  | _ => none }
def marksDoesRow : OpenClaim := { program := "ytlgbimpbdofloaa", sum := "031cf3fc93816f6180316f3e183b1381085e305b47795e0b4ef291f8df2b1633", func := "solder/solderlaw07.MarksDoes", spec := "marksDoes", unfollowed := true, recurses := true, apart := false }
def MarksDoesSaid : Prop := marksDoesRow.holds Try.pinned (OpenSpec.ofChange marksDoesSpec)

/-- ITS FALSE NEIGHBOUR: 'it returns false'. Refute it at one input. -/
def marksDoesWrong : ChangeSpec := { name := "marksDoes", fn := fun _ => fun
  | [d1, d2] => { results := [.lit (.bool false)], args := [d1, d2] }
  | _ => none }
def MarksDoesWrongFalsely : Prop := marksDoesRow.holds Try.pinned (OpenSpec.ofChange marksDoesWrong)

/-- 'solderlaw07.MarksNone': WHATEVER THE INPUT: true; the input reads as it did. -/
def marksNoneSpec : ChangeSpec := { name := "marksNone", fn := fun _ => fun
  | [d] => { results := [.lit (.bool true)], args := [d] }
  | _ => none }
def marksNoneRow : OpenClaim := { program := "ytlgbimpbdofloaa", sum := "031cf3fc93816f6180316f3e183b1381085e305b47795e0b4ef291f8df2b1633", func := "solder/solderlaw07.MarksNone", spec := "marksNone", unfollowed := true, recurses := true, apart := false }
def MarksNoneSaid : Prop := marksNoneRow.holds Try.pinned (OpenSpec.ofChange marksNoneSpec)

/-- ITS FALSE NEIGHBOUR: 'it returns false'. Refute it at one input. -/
def marksNoneWrong : ChangeSpec := { name := "marksNone", fn := fun _ => fun
  | [d] => { results := [.lit (.bool false)], args := [d] }
  | _ => none }
def MarksNoneWrongFalsely : Prop := marksNoneRow.holds Try.pinned (OpenSpec.ofChange marksNoneWrong)

/- THE SECOND FORM. 'bulk': how many values and letters a reading holds, each counted each time it is reached (what is shared counts as often as it is met; a slice's spare places count too). A statement '..UptoSaid' is the law's where the arguments, and the package variables that the reading takes, are together of bulk at most 1048576: NARROWER than '..Said'. Prove '..Said' where nothing that the law and all that it calls make is longer than what came in: it says more and counts as full. Else prove '..UptoSaid'. A law counts once. -/
mutual
def uptoBulk {H : Type} : DataW H → Nat
  | .lit (.string bytes) => bytes.length + 1
  | .lit _ => 1
  | .nil => 1
  | .ptr d => uptoBulk d + 1
  | .slice elems spare => uptoBulkAll elems + uptoBulkAll spare + 1
  | .agg parts => uptoBulkAll parts + 1
  | .iface _ d => uptoBulk d + 1
  | .map entries => uptoBulkEntries entries + 1
  | .held _ => 1
def uptoBulkAll {H : Type} : List (DataW H) → Nat
  | [] => 0
  | d :: r => uptoBulk d + uptoBulkAll r
def uptoBulkEntries {H : Type} : List (Lit × DataW H) → Nat
  | [] => 0
  | x :: r => uptoBulkEntry x + uptoBulkEntries r
def uptoBulkEntry {H : Type} : Lit × DataW H → Nat
  | (.string bytes, d) => bytes.length + uptoBulk d + 1
  | (_, d) => uptoBulk d + 1
 end
def uptoSmall : (H : Type) → List (DataW H) → Bool := fun _ ds => decide (uptoBulkAll ds ≤ 1048576)
def OpenSpec.upto (s : _root_.Go.ChangeSpec) : _root_.Go.OpenSpec := { _root_.Go.OpenSpec.ofChange s with cond := some uptoSmall }

/-- 'solderlaw07.MarksBack', WHERE WHAT IT READS IS OF BULK AT MOST 1048576: true; the input reads as it did. -/
def marksBackUptoRow : OpenClaim := { program := "ytlgbimpbdofloaa", sum := "031cf3fc93816f6180316f3e183b1381085e305b47795e0b4ef291f8df2b1633", func := "solder/solderlaw07.MarksBack", spec := "marksBack", unfollowed := true, recurses := true, apart := false, narrowed := true }
def MarksBackUptoSaid : Prop := marksBackUptoRow.holds Try.pinned (OpenSpec.upto marksBackSpec)

/-- 'solderlaw07.MarksReads', WHERE WHAT IT READS IS OF BULK AT MOST 1048576: true; the input reads as it did. -/
def marksReadsUptoRow : OpenClaim := { program := "ytlgbimpbdofloaa", sum := "031cf3fc93816f6180316f3e183b1381085e305b47795e0b4ef291f8df2b1633", func := "solder/solderlaw07.MarksReads", spec := "marksReads", unfollowed := true, recurses := true, apart := false, narrowed := true }
def MarksReadsUptoSaid : Prop := marksReadsUptoRow.holds Try.pinned (OpenSpec.upto marksReadsSpec)

/-- 'solderlaw07.MarksDoes', WHERE WHAT IT READS IS OF BULK AT MOST 1048576: true; the input reads as it did. -/
def marksDoesUptoRow : OpenClaim := { program := "ytlgbimpbdofloaa", sum := "031cf3fc93816f6180316f3e183b1381085e305b47795e0b4ef291f8df2b1633", func := "solder/solderlaw07.MarksDoes", spec := "marksDoes", unfollowed := true, recurses := true, apart := false, narrowed := true }
def MarksDoesUptoSaid : Prop := marksDoesUptoRow.holds Try.pinned (OpenSpec.upto marksDoesSpec)

/-- 'solderlaw07.MarksNone', WHERE WHAT IT READS IS OF BULK AT MOST 1048576: true; the input reads as it did. -/
def marksNoneUptoRow : OpenClaim := { program := "ytlgbimpbdofloaa", sum := "031cf3fc93816f6180316f3e183b1381085e305b47795e0b4ef291f8df2b1633", func := "solder/solderlaw07.MarksNone", spec := "marksNone", unfollowed := true, recurses := true, apart := false, narrowed := true }
def MarksNoneUptoSaid : Prop := marksNoneUptoRow.holds Try.pinned (OpenSpec.upto marksNoneSpec)

end Rows
end Go.Proofs.Ytlgbimpbdofloaa
