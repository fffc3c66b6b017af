/-
  DERIVED. GIVEN WITH THE SEED: THE CARDS: each row of YtdobmpkdgkifpaaGreatDoorRows.lean that lists a variable, with what it lists TIED to the program's text (the seventh form; the later family's looks); each row that meets fmt, with fmt's text TOLD by the authors' own Lean function (tested against real Go, not proved from fmt's source: count such statements apart). THE CARD IS WHAT COUNTS. Prove the row's statement (the work); the ties are given (YtdobmpkdgkifpaaGreatDoorTie.lean); close each card by the builder's one call (the guide's Derived/Test/ToyasCard.lean, 'card_holds'). Laid BY PROGRAM, IN A SANDBOX (cutbox-door.mjs). By AI agents, Wed Nov 11 2026. No macro, syntax, notation, axiom, sorry.
-/
import Derived.Test.YtdobmpkdgkifpaaGreatDoorRows
import GoSem.ClaimSeven
namespace Go.Proofs.YtdobmpkdgkifpaaGreatDoor
namespace Rows

/-- THE TIED CARD OF 'abacistlaw22.FlookNames'. -/
def flookNamesCard : Claim7 := { stood := { row := flookNamesRow, standIns := [], harness := (true, "2989764d04073d1127a938a5c871947157ef7bc5c02f2c77cf5c90187609d87a"), looks := false }, kinds := [], alts := [], laidByText := true, laidKinds := [.data, .pinned], laidTests := true, laidLooks := .later }
def FlookNamesCardSaid : Prop := Claim7.holds Tryz.pinned (.plain (OpenSpec.ofChange flookNamesSpec)) flookNamesCard

/-- THE TIED CARD OF 'abacistlaw22.FlookFinds'. -/
def flookFindsCard : Claim7 := { stood := { row := flookFindsRow, standIns := [], harness := (true, "2989764d04073d1127a938a5c871947157ef7bc5c02f2c77cf5c90187609d87a"), looks := false }, kinds := [], alts := [], laidByText := true, laidKinds := [.data, .pinned], laidTests := true, laidLooks := .later }
def FlookFindsCardSaid : Prop := Claim7.holds Tryz.pinned (.plain (OpenSpec.ofChange flookFindsSpec)) flookFindsCard

/-- THE SECOND FORM's CARD OF 'abacistlaw22.FlookNames'. -/
def flookNamesUptoCard : Claim7 := { stood := { row := flookNamesUptoRow, standIns := [], harness := (true, "2989764d04073d1127a938a5c871947157ef7bc5c02f2c77cf5c90187609d87a"), looks := false }, kinds := [], alts := [], laidByText := true, laidKinds := [.data, .pinned], laidTests := true, laidLooks := .later }
def FlookNamesUptoCardSaid : Prop := Claim7.holds Tryz.pinned (.plain (OpenSpec.upto flookNamesSpec)) flookNamesUptoCard

/-- THE SECOND FORM's CARD OF 'abacistlaw22.FlookFinds'. -/
def flookFindsUptoCard : Claim7 := { stood := { row := flookFindsUptoRow, standIns := [], harness := (true, "2989764d04073d1127a938a5c871947157ef7bc5c02f2c77cf5c90187609d87a"), looks := false }, kinds := [], alts := [], laidByText := true, laidKinds := [.data, .pinned], laidTests := true, laidLooks := .later }
def FlookFindsUptoCardSaid : Prop := Claim7.holds Tryz.pinned (.plain (OpenSpec.upto flookFindsSpec)) flookFindsUptoCard
end Rows
end Go.Proofs.YtdobmpkdgkifpaaGreatDoor
