/-
  DERIVED. GIVEN WITH THE SEED: THE CARDS: each row of YtgnkkanhjghhfaaGreatDoorRows.lean that lists a variable, with what it lists TIED to the program's text (the seventh form; the later family's looks); each row that meets fmt, with fmt's text TOLD by the authors' own Lean function (tested against real Go, not proved from fmt's source: count such statements apart). THE CARD IS WHAT COUNTS. Prove the row's statement (the work); the ties are given (YtgnkkanhjghhfaaGreatDoorTie.lean); close each card by the builder's one call (the guide's Derived/Test/ToyasCard.lean, 'card_holds'). Laid BY PROGRAM, IN A SANDBOX (cutbox-door.mjs). By AI agents, Wed Nov 11 2026. No macro, syntax, notation, axiom, sorry.
-/
import Derived.Test.YtgnkkanhjghhfaaGreatDoorRows
import GoSem.ClaimSeven
namespace Go.Proofs.YtgnkkanhjghhfaaGreatDoor
namespace Rows

/-- THE TIED CARD OF 'abacistlaw13.AstTells'. -/
def astTellsCard : Claim7 := { stood := { row := astTellsRow, standIns := [], harness := (true, "c8c563b2dc61e99ff86e124a9c5e26b787cd0475eada2fcf4ebf4cbbabf85702"), looks := false }, kinds := [], alts := [], laidByText := true, laidKinds := [.data, .pinned], laidTests := true, laidLooks := .later }
def AstTellsCardSaid : Prop := Claim7.holds Tryz.pinned (.plain (OpenSpec.ofChange astTellsSpec)) astTellsCard

/-- THE TIED CARD OF 'abacistlaw13.AstMakes'. -/
def astMakesCard : Claim7 := { stood := { row := astMakesRow, standIns := [], harness := (true, "c8c563b2dc61e99ff86e124a9c5e26b787cd0475eada2fcf4ebf4cbbabf85702"), looks := false }, kinds := [], alts := [], laidByText := true, laidKinds := [.data, .pinned], laidTests := true, laidLooks := .later }
def AstMakesCardSaid : Prop := Claim7.holds Tryz.pinned (.plain (OpenSpec.ofChange astMakesSpec)) astMakesCard

/-- THE TIED CARD OF 'abacistlaw13.AstParts'. -/
def astPartsCard : Claim7 := { stood := { row := astPartsRow, standIns := [], harness := (true, "c8c563b2dc61e99ff86e124a9c5e26b787cd0475eada2fcf4ebf4cbbabf85702"), looks := false }, kinds := [], alts := [], laidByText := true, laidKinds := [.data, .pinned], laidTests := true, laidLooks := .later }
def AstPartsCardSaid : Prop := Claim7.holds Tryz.pinned (.plain (OpenSpec.ofChange astPartsSpec)) astPartsCard

/-- THE SECOND FORM's CARD OF 'abacistlaw13.AstTells'. -/
def astTellsUptoCard : Claim7 := { stood := { row := astTellsUptoRow, standIns := [], harness := (true, "c8c563b2dc61e99ff86e124a9c5e26b787cd0475eada2fcf4ebf4cbbabf85702"), looks := false }, kinds := [], alts := [], laidByText := true, laidKinds := [.data, .pinned], laidTests := true, laidLooks := .later }
def AstTellsUptoCardSaid : Prop := Claim7.holds Tryz.pinned (.plain (OpenSpec.upto astTellsSpec)) astTellsUptoCard

/-- THE SECOND FORM's CARD OF 'abacistlaw13.AstMakes'. -/
def astMakesUptoCard : Claim7 := { stood := { row := astMakesUptoRow, standIns := [], harness := (true, "c8c563b2dc61e99ff86e124a9c5e26b787cd0475eada2fcf4ebf4cbbabf85702"), looks := false }, kinds := [], alts := [], laidByText := true, laidKinds := [.data, .pinned], laidTests := true, laidLooks := .later }
def AstMakesUptoCardSaid : Prop := Claim7.holds Tryz.pinned (.plain (OpenSpec.upto astMakesSpec)) astMakesUptoCard

/-- THE SECOND FORM's CARD OF 'abacistlaw13.AstParts'. -/
def astPartsUptoCard : Claim7 := { stood := { row := astPartsUptoRow, standIns := [], harness := (true, "c8c563b2dc61e99ff86e124a9c5e26b787cd0475eada2fcf4ebf4cbbabf85702"), looks := false }, kinds := [], alts := [], laidByText := true, laidKinds := [.data, .pinned], laidTests := true, laidLooks := .later }
def AstPartsUptoCardSaid : Prop := Claim7.holds Tryz.pinned (.plain (OpenSpec.upto astPartsSpec)) astPartsUptoCard
end Rows
end Go.Proofs.YtgnkkanhjghhfaaGreatDoor
