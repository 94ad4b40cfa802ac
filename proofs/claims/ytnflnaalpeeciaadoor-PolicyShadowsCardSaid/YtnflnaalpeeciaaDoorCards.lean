/-
  DERIVED. GIVEN WITH THE SEED: THE CARDS: each row of YtnflnaalpeeciaaDoorRows.lean that lists a variable, with what it lists TIED to the program's text (the seventh form; the later family's looks); each row that meets fmt, with fmt's text TOLD by the authors' own Lean function (tested against real Go, not proved from fmt's source: count such statements apart). THE CARD IS WHAT COUNTS. Prove the row's statement (the work); the ties are given (YtnflnaalpeeciaaDoorTie.lean); close each card by the builder's one call (the guide's Derived/Test/ToyasCard.lean, 'card_holds'). Laid BY PROGRAM, IN A SANDBOX (cutbox-door.mjs). By AI agents, Wed Nov 11 2026. No macro, syntax, notation, axiom, sorry.
-/
import Derived.Test.YtnflnaalpeeciaaDoorRows
import GoSem.ClaimSeven
namespace Go.Proofs.YtnflnaalpeeciaaDoor
namespace Rows

/-- THE TIED CARD OF 'solderlaw42.PolicyShadows'. -/
def policyShadowsCard : Claim7 := { stood := { row := policyShadowsRow, standIns := [], harness := (true, "461826c70c29a58d8478d701b5f3413b984c00364f81651ad4e9dbf6d13082df"), looks := false }, kinds := [], alts := [], laidByText := true, laidKinds := [.data, .pinned], laidTests := true, laidLooks := .later }
def PolicyShadowsCardSaid : Prop := Claim7.holds Tryd.pinned (.plain (OpenSpec.ofChange policyShadowsSpec)) policyShadowsCard

/-- THE TIED CARD OF 'solderlaw42.PolicyPlans'. -/
def policyPlansCard : Claim7 := { stood := { row := policyPlansRow, standIns := [], harness := (true, "461826c70c29a58d8478d701b5f3413b984c00364f81651ad4e9dbf6d13082df"), looks := false }, kinds := [], alts := [], laidByText := true, laidKinds := [.data, .pinned], laidTests := true, laidLooks := .later }
def PolicyPlansCardSaid : Prop := Claim7.holds Tryd.pinned (.plain (OpenSpec.ofChange policyPlansSpec)) policyPlansCard

/-- THE TIED CARD OF 'solderlaw42.PolicyWrites'. -/
def policyWritesCard : Claim7 := { stood := { row := policyWritesRow, standIns := [], harness := (true, "461826c70c29a58d8478d701b5f3413b984c00364f81651ad4e9dbf6d13082df"), looks := false }, kinds := [], alts := [], laidByText := true, laidKinds := [.data, .pinned], laidTests := true, laidLooks := .later }
def PolicyWritesCardSaid : Prop := Claim7.holds Tryd.pinned (.plain (OpenSpec.ofChange policyWritesSpec)) policyWritesCard

/-- THE SECOND FORM's CARD OF 'solderlaw42.PolicyShadows'. -/
def policyShadowsUptoCard : Claim7 := { stood := { row := policyShadowsUptoRow, standIns := [], harness := (true, "461826c70c29a58d8478d701b5f3413b984c00364f81651ad4e9dbf6d13082df"), looks := false }, kinds := [], alts := [], laidByText := true, laidKinds := [.data, .pinned], laidTests := true, laidLooks := .later }
def PolicyShadowsUptoCardSaid : Prop := Claim7.holds Tryd.pinned (.plain (OpenSpec.upto policyShadowsSpec)) policyShadowsUptoCard

/-- THE SECOND FORM's CARD OF 'solderlaw42.PolicyPlans'. -/
def policyPlansUptoCard : Claim7 := { stood := { row := policyPlansUptoRow, standIns := [], harness := (true, "461826c70c29a58d8478d701b5f3413b984c00364f81651ad4e9dbf6d13082df"), looks := false }, kinds := [], alts := [], laidByText := true, laidKinds := [.data, .pinned], laidTests := true, laidLooks := .later }
def PolicyPlansUptoCardSaid : Prop := Claim7.holds Tryd.pinned (.plain (OpenSpec.upto policyPlansSpec)) policyPlansUptoCard

/-- THE SECOND FORM's CARD OF 'solderlaw42.PolicyWrites'. -/
def policyWritesUptoCard : Claim7 := { stood := { row := policyWritesUptoRow, standIns := [], harness := (true, "461826c70c29a58d8478d701b5f3413b984c00364f81651ad4e9dbf6d13082df"), looks := false }, kinds := [], alts := [], laidByText := true, laidKinds := [.data, .pinned], laidTests := true, laidLooks := .later }
def PolicyWritesUptoCardSaid : Prop := Claim7.holds Tryd.pinned (.plain (OpenSpec.upto policyWritesSpec)) policyWritesUptoCard
end Rows
end Go.Proofs.YtnflnaalpeeciaaDoor
