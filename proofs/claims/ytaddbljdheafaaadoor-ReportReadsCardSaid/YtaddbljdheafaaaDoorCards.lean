/-
  DERIVED. GIVEN WITH THE SEED: THE CARDS: each row of YtaddbljdheafaaaDoorRows.lean that lists a variable, with what it lists TIED to the program's text (the seventh form; the later family's looks); each row that meets fmt, with fmt's text TOLD by the authors' own Lean function (tested against real Go, not proved from fmt's source: count such statements apart). THE CARD IS WHAT COUNTS. Prove the row's statement (the work); the ties are given (YtaddbljdheafaaaDoorTie.lean); close each card by the builder's one call (the guide's Derived/Test/ToyasCard.lean, 'card_holds'). Laid BY PROGRAM, IN A SANDBOX (cutbox-door.mjs). By AI agents, Wed Nov 11 2026. No macro, syntax, notation, axiom, sorry.
-/
import Derived.Test.YtaddbljdheafaaaDoorRows
import GoSem.ClaimSeven
namespace Go.Proofs.YtaddbljdheafaaaDoor
namespace Rows

/-- THE TIED CARD OF 'solderlaw34.ReportReads'. -/
def reportReadsCard : Claim7 := { stood := { row := reportReadsRow, standIns := [], harness := (true, "7773c5476cac0f78c47cc7199d46269f82700b8fd2dadd36bd6e3617b65ed8db"), looks := false }, kinds := [], alts := [], laidByText := true, laidKinds := [.data, .pinned], laidTests := true, laidLooks := .later }
def ReportReadsCardSaid : Prop := Claim7.holds Tryd.pinned (.plain (OpenSpec.ofChange reportReadsSpec)) reportReadsCard

/-- THE TIED CARD OF 'solderlaw34.ReportStates'. -/
def reportStatesCard : Claim7 := { stood := { row := reportStatesRow, standIns := [], harness := (true, "7773c5476cac0f78c47cc7199d46269f82700b8fd2dadd36bd6e3617b65ed8db"), looks := false }, kinds := [], alts := [], laidByText := true, laidKinds := [.data, .pinned], laidTests := true, laidLooks := .later }
def ReportStatesCardSaid : Prop := Claim7.holds Tryd.pinned (.plain (OpenSpec.ofChange reportStatesSpec)) reportStatesCard

/-- THE TIED CARD OF 'solderlaw34.ReportTells'. -/
def reportTellsCard : Claim7 := { stood := { row := reportTellsRow, standIns := [], harness := (true, "7773c5476cac0f78c47cc7199d46269f82700b8fd2dadd36bd6e3617b65ed8db"), looks := false }, kinds := [], alts := [], laidByText := true, laidKinds := [.data, .pinned], laidTests := true, laidLooks := .later }
def ReportTellsCardSaid : Prop := Claim7.holds Tryd.pinned (.plain (OpenSpec.ofChange reportTellsSpec)) reportTellsCard

/-- THE SECOND FORM's CARD OF 'solderlaw34.ReportReads'. -/
def reportReadsUptoCard : Claim7 := { stood := { row := reportReadsUptoRow, standIns := [], harness := (true, "7773c5476cac0f78c47cc7199d46269f82700b8fd2dadd36bd6e3617b65ed8db"), looks := false }, kinds := [], alts := [], laidByText := true, laidKinds := [.data, .pinned], laidTests := true, laidLooks := .later }
def ReportReadsUptoCardSaid : Prop := Claim7.holds Tryd.pinned (.plain (OpenSpec.upto reportReadsSpec)) reportReadsUptoCard

/-- THE SECOND FORM's CARD OF 'solderlaw34.ReportStates'. -/
def reportStatesUptoCard : Claim7 := { stood := { row := reportStatesUptoRow, standIns := [], harness := (true, "7773c5476cac0f78c47cc7199d46269f82700b8fd2dadd36bd6e3617b65ed8db"), looks := false }, kinds := [], alts := [], laidByText := true, laidKinds := [.data, .pinned], laidTests := true, laidLooks := .later }
def ReportStatesUptoCardSaid : Prop := Claim7.holds Tryd.pinned (.plain (OpenSpec.upto reportStatesSpec)) reportStatesUptoCard

/-- THE SECOND FORM's CARD OF 'solderlaw34.ReportTells'. -/
def reportTellsUptoCard : Claim7 := { stood := { row := reportTellsUptoRow, standIns := [], harness := (true, "7773c5476cac0f78c47cc7199d46269f82700b8fd2dadd36bd6e3617b65ed8db"), looks := false }, kinds := [], alts := [], laidByText := true, laidKinds := [.data, .pinned], laidTests := true, laidLooks := .later }
def ReportTellsUptoCardSaid : Prop := Claim7.holds Tryd.pinned (.plain (OpenSpec.upto reportTellsSpec)) reportTellsUptoCard
end Rows
end Go.Proofs.YtaddbljdheafaaaDoor
