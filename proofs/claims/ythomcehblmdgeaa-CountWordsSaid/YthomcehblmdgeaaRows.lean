/-
  No cell of these rows narrows 'for every input' (looked for: loops, veiled, ifaces, maps, wideKeys, modest, calm, conditions, laid).
  DERIVED. THE GIVEN ROWS OF THIS SEAT. 4 by the template 'for every input the law returns true; each argument reads behind the call as it read before'; 0 by the template 'total and deterministic' (their statements: YthomcehblmdgeaaTotals.lean).
  GIVEN WITH THE SEED: the statements are not yours to turn. If you find one false, say at which input.
  Laid BY PROGRAM, IN A SANDBOX (cutbox-rows.mjs): the forced cells as the released guide's own fill.sh prints them over the translation 9043e6acd63e2944… (all of the seat's roots in one cut). By AI agents, Wed Nov 11 2026. No macro, syntax, notation, axiom, sorry.
-/
import Derived.Test.YthomcehblmdgeaaChecked
import GoSem.Claim
import GoSem.ClaimJoined
import GoSem.ClaimMapViews
import Derived.JoinedTies
import Derived.KernelRfl
namespace Go.Proofs.Ythomcehblmdgeaa
/- THE CELL 'sum', in the pinned program and in every row, IS THE sha256 OF THE DUMP (.gsa) THAT YthomcehblmdgeaaProg.lean LOADS. Nothing in Lean hashes anything: it is a label: what it is worth is what the hold of that sum in a sandbox is worth. -/
noncomputable def Try.pinned : Pinned := { name := "ythomcehblmdgeaa", sum := "9043e6acd63e294420c8c7bc0f39b7575ea279975c636f4ba51c8ad9d977a695", checked := Try.checked }
namespace Rows
def none {H : Type} : Left H := { results := [], args := [] }

/-- 'solderlaw01.CountNumbers': WHATEVER THE INPUT: true; the input reads as it did. -/
def countNumbersSpec : ChangeSpec := { name := "countNumbers", fn := fun _ => fun
  | [d1, d2] => { results := [.lit (.bool true)], args := [d1, d2] }
  | _ => none }
def countNumbersRow : OpenClaim := { program := "ythomcehblmdgeaa", sum := "9043e6acd63e294420c8c7bc0f39b7575ea279975c636f4ba51c8ad9d977a695", func := "solder/solderlaw01.CountNumbers", spec := "countNumbers", recurses := true, apart := false }
def CountNumbersSaid : Prop := countNumbersRow.holds Try.pinned (OpenSpec.ofChange countNumbersSpec)

/-- ITS FALSE NEIGHBOUR: 'it returns false'. Refute it at one input. -/
def countNumbersWrong : ChangeSpec := { name := "countNumbers", fn := fun _ => fun
  | [d1, d2] => { results := [.lit (.bool false)], args := [d1, d2] }
  | _ => none }
def CountNumbersWrongFalsely : Prop := countNumbersRow.holds Try.pinned (OpenSpec.ofChange countNumbersWrong)

/-- 'solderlaw01.CountWords': WHATEVER THE INPUT: true; the input reads as it did. -/
def countWordsSpec : ChangeSpec := { name := "countWords", fn := fun _ => fun
  | [d] => { results := [.lit (.bool true)], args := [d] }
  | _ => none }
def countWordsRow : OpenClaim := { program := "ythomcehblmdgeaa", sum := "9043e6acd63e294420c8c7bc0f39b7575ea279975c636f4ba51c8ad9d977a695", func := "solder/solderlaw01.CountWords", spec := "countWords", apart := false }
def CountWordsSaid : Prop := countWordsRow.holds Try.pinned (OpenSpec.ofChange countWordsSpec)

/-- ITS FALSE NEIGHBOUR: 'it returns false'. Refute it at one input. -/
def countWordsWrong : ChangeSpec := { name := "countWords", fn := fun _ => fun
  | [d] => { results := [.lit (.bool false)], args := [d] }
  | _ => none }
def CountWordsWrongFalsely : Prop := countWordsRow.holds Try.pinned (OpenSpec.ofChange countWordsWrong)

/-- 'solderlaw01.CountHex': WHATEVER THE INPUT: true; the input reads as it did. -/
def countHexSpec : ChangeSpec := { name := "countHex", fn := fun _ => fun
  | [d1, d2] => { results := [.lit (.bool true)], args := [d1, d2] }
  | _ => none }
def countHexRow : OpenClaim := { program := "ythomcehblmdgeaa", sum := "9043e6acd63e294420c8c7bc0f39b7575ea279975c636f4ba51c8ad9d977a695", func := "solder/solderlaw01.CountHex", spec := "countHex", apart := false }
def CountHexSaid : Prop := countHexRow.holds Try.pinned (OpenSpec.ofChange countHexSpec)

/-- ITS FALSE NEIGHBOUR: 'it returns false'. Refute it at one input. -/
def countHexWrong : ChangeSpec := { name := "countHex", fn := fun _ => fun
  | [d1, d2] => { results := [.lit (.bool false)], args := [d1, d2] }
  | _ => none }
def CountHexWrongFalsely : Prop := countHexRow.holds Try.pinned (OpenSpec.ofChange countHexWrong)

/-- 'solderlaw01.CountBack': WHATEVER THE INPUT: true; the input reads as it did. -/
def countBackSpec : ChangeSpec := { name := "countBack", fn := fun _ => fun
  | [d1, d2] => { results := [.lit (.bool true)], args := [d1, d2] }
  | _ => none }
def countBackRow : OpenClaim := { program := "ythomcehblmdgeaa", sum := "9043e6acd63e294420c8c7bc0f39b7575ea279975c636f4ba51c8ad9d977a695", func := "solder/solderlaw01.CountBack", spec := "countBack", apart := false }
def CountBackSaid : Prop := countBackRow.holds Try.pinned (OpenSpec.ofChange countBackSpec)

/-- ITS FALSE NEIGHBOUR: 'it returns false'. Refute it at one input. -/
def countBackWrong : ChangeSpec := { name := "countBack", fn := fun _ => fun
  | [d1, d2] => { results := [.lit (.bool false)], args := [d1, d2] }
  | _ => none }
def CountBackWrongFalsely : Prop := countBackRow.holds Try.pinned (OpenSpec.ofChange countBackWrong)

/- THE SECOND FORM. 'bulk': how many values and letters a reading holds, each counted each time it is reached (what is shared counts as often as it is met; a slice's spare places count too). A statement '..UptoSaid' is the law's where the arguments, and the package variables that the reading takes, are together of bulk at most 1048576: NARROWER than '..Said'. Prove '..Said' where nothing that the law and all that it calls make is longer than what came in: it says more and counts as full. Else prove '..UptoSaid'. A law counts once. -/
mutual
def uptoBulk {H : Type} : DataW H → Nat
  | .lit (.string bytes) => bytes.length + 1
  | .lit _ => 1
  | .nil => 1
  | .ptr d => uptoBulk d + 1
  | .slice elems spare => uptoBulkAll elems + uptoBulkAll spare + 1
  | .agg parts => uptoBulkAll parts + 1
  | .iface _ d => uptoBulk d + 1
  | .map entries => uptoBulkEntries entries + 1
  | .held _ => 1
def uptoBulkAll {H : Type} : List (DataW H) → Nat
  | [] => 0
  | d :: r => uptoBulk d + uptoBulkAll r
def uptoBulkEntries {H : Type} : List (Lit × DataW H) → Nat
  | [] => 0
  | x :: r => uptoBulkEntry x + uptoBulkEntries r
def uptoBulkEntry {H : Type} : Lit × DataW H → Nat
  | (.string bytes, d) => bytes.length + uptoBulk d + 1
  | (_, d) => uptoBulk d + 1
 end
def uptoSmall : (H : Type) → List (DataW H) → Bool := fun _ ds => decide (uptoBulkAll ds ≤ 1048576)
def OpenSpec.upto (s : _root_.Go.ChangeSpec) : _root_.Go.OpenSpec := { _root_.Go.OpenSpec.ofChange s with cond := some uptoSmall }

/-- 'solderlaw01.CountNumbers', WHERE WHAT IT READS IS OF BULK AT MOST 1048576: true; the input reads as it did. -/
def countNumbersUptoRow : OpenClaim := { program := "ythomcehblmdgeaa", sum := "9043e6acd63e294420c8c7bc0f39b7575ea279975c636f4ba51c8ad9d977a695", func := "solder/solderlaw01.CountNumbers", spec := "countNumbers", recurses := true, apart := false, narrowed := true }
def CountNumbersUptoSaid : Prop := countNumbersUptoRow.holds Try.pinned (OpenSpec.upto countNumbersSpec)

/-- 'solderlaw01.CountWords', WHERE WHAT IT READS IS OF BULK AT MOST 1048576: true; the input reads as it did. -/
def countWordsUptoRow : OpenClaim := { program := "ythomcehblmdgeaa", sum := "9043e6acd63e294420c8c7bc0f39b7575ea279975c636f4ba51c8ad9d977a695", func := "solder/solderlaw01.CountWords", spec := "countWords", apart := false, narrowed := true }
def CountWordsUptoSaid : Prop := countWordsUptoRow.holds Try.pinned (OpenSpec.upto countWordsSpec)

/-- 'solderlaw01.CountHex', WHERE WHAT IT READS IS OF BULK AT MOST 1048576: true; the input reads as it did. -/
def countHexUptoRow : OpenClaim := { program := "ythomcehblmdgeaa", sum := "9043e6acd63e294420c8c7bc0f39b7575ea279975c636f4ba51c8ad9d977a695", func := "solder/solderlaw01.CountHex", spec := "countHex", apart := false, narrowed := true }
def CountHexUptoSaid : Prop := countHexUptoRow.holds Try.pinned (OpenSpec.upto countHexSpec)

/-- 'solderlaw01.CountBack', WHERE WHAT IT READS IS OF BULK AT MOST 1048576: true; the input reads as it did. -/
def countBackUptoRow : OpenClaim := { program := "ythomcehblmdgeaa", sum := "9043e6acd63e294420c8c7bc0f39b7575ea279975c636f4ba51c8ad9d977a695", func := "solder/solderlaw01.CountBack", spec := "countBack", apart := false, narrowed := true }
def CountBackUptoSaid : Prop := countBackUptoRow.holds Try.pinned (OpenSpec.upto countBackSpec)

end Rows
end Go.Proofs.Ythomcehblmdgeaa
