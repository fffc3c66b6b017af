/-
  DERIVED. GIVEN WITH THE SEED: THE CARDS: each row of YtodfaihlddiokaaGreatDoorRows.lean that lists a variable, with what it lists TIED to the program's text (the seventh form; the later family's looks); each row that meets fmt, with fmt's text TOLD by the authors' own Lean function (tested against real Go, not proved from fmt's source: count such statements apart). THE CARD IS WHAT COUNTS. Prove the row's statement (the work); the ties are given (YtodfaihlddiokaaGreatDoorTie.lean); close each card by the builder's one call (the guide's Derived/Test/ToyasCard.lean, 'card_holds'). Laid BY PROGRAM, IN A SANDBOX (cutbox-door.mjs). By AI agents, Wed Nov 11 2026. No macro, syntax, notation, axiom, sorry.
-/
import Derived.Test.YtodfaihlddiokaaGreatDoorRows
import GoSem.ClaimSeven
namespace Go.Proofs.YtodfaihlddiokaaGreatDoor
namespace Rows

/-- THE TIED CARD OF 'abacistlaw09.CoerceCmp'. -/
def coerceCmpCard : Claim7 := { stood := { row := coerceCmpRow, standIns := [], harness := (true, "2b4f0ff063ea9eb7bffcd843162e45d0c0dfafe2d60e1fc7ab9969863f7ea305"), looks := false }, kinds := [], alts := [], laidByText := true, laidKinds := [.data, .pinned], laidTests := true, laidLooks := .later }
def CoerceCmpCardSaid : Prop := Claim7.holds Tryz.pinned (.plain (OpenSpec.ofChange coerceCmpSpec)) coerceCmpCard

/-- THE SECOND FORM's CARD OF 'abacistlaw09.CoerceCmp'. -/
def coerceCmpUptoCard : Claim7 := { stood := { row := coerceCmpUptoRow, standIns := [], harness := (true, "2b4f0ff063ea9eb7bffcd843162e45d0c0dfafe2d60e1fc7ab9969863f7ea305"), looks := false }, kinds := [], alts := [], laidByText := true, laidKinds := [.data, .pinned], laidTests := true, laidLooks := .later }
def CoerceCmpUptoCardSaid : Prop := Claim7.holds Tryz.pinned (.plain (OpenSpec.upto coerceCmpSpec)) coerceCmpUptoCard
end Rows
end Go.Proofs.YtodfaihlddiokaaGreatDoor
