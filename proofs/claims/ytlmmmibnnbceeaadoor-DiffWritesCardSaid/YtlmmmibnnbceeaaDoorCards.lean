/-
  DERIVED. GIVEN WITH THE SEED: THE CARDS: each row of YtlmmmibnnbceeaaDoorRows.lean that lists a variable, with what it lists TIED to the program's text (the seventh form; the later family's looks); each row that meets fmt, with fmt's text TOLD by the authors' own Lean function (tested against real Go, not proved from fmt's source: count such statements apart). THE CARD IS WHAT COUNTS. Prove the row's statement (the work); the ties are given (YtlmmmibnnbceeaaDoorTie.lean); close each card by the builder's one call (the guide's Derived/Test/ToyasCard.lean, 'card_holds'). Laid BY PROGRAM, IN A SANDBOX (cutbox-door.mjs). By AI agents, Wed Nov 11 2026. No macro, syntax, notation, axiom, sorry.
-/
import Derived.Test.YtlmmmibnnbceeaaDoorRows
import GoSem.ClaimSeven
namespace Go.Proofs.YtlmmmibnnbceeaaDoor
namespace Rows

/-- THE TIED CARD OF 'solderlaw41.DiffWrites'. -/
def diffWritesCard : Claim7 := { stood := { row := diffWritesRow, standIns := [], harness := (true, "db8c647c17d14f41ca7ab151f61e6af6bcb7759b848da86029ab15f20c0fd5d4"), looks := false }, kinds := [], alts := [], laidByText := true, laidKinds := [.data, .pinned], laidTests := true, laidLooks := .later }
def DiffWritesCardSaid : Prop := Claim7.holds Tryd.pinned (.plain (OpenSpec.ofChange diffWritesSpec)) diffWritesCard

/-- THE SECOND FORM's CARD OF 'solderlaw41.DiffWrites'. -/
def diffWritesUptoCard : Claim7 := { stood := { row := diffWritesUptoRow, standIns := [], harness := (true, "db8c647c17d14f41ca7ab151f61e6af6bcb7759b848da86029ab15f20c0fd5d4"), looks := false }, kinds := [], alts := [], laidByText := true, laidKinds := [.data, .pinned], laidTests := true, laidLooks := .later }
def DiffWritesUptoCardSaid : Prop := Claim7.holds Tryd.pinned (.plain (OpenSpec.upto diffWritesSpec)) diffWritesUptoCard
end Rows
end Go.Proofs.YtlmmmibnnbceeaaDoor
