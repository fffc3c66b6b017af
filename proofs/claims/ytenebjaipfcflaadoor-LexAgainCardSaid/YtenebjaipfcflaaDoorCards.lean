/-
  DERIVED. GIVEN WITH THE SEED: THE CARDS: each row of YtenebjaipfcflaaDoorRows.lean that lists a variable, with what it lists TIED to the program's text (the seventh form; the later family's looks); each row that meets fmt, with fmt's text TOLD by the authors' own Lean function (tested against real Go, not proved from fmt's source: count such statements apart). THE CARD IS WHAT COUNTS. Prove the row's statement (the work); the ties are given (YtenebjaipfcflaaDoorTie.lean); close each card by the builder's one call (the guide's Derived/Test/ToyasCard.lean, 'card_holds'). Laid BY PROGRAM, IN A SANDBOX (cutbox-door.mjs). By AI agents, Wed Nov 11 2026. No macro, syntax, notation, axiom, sorry.
-/
import Derived.Test.YtenebjaipfcflaaDoorRows
import GoSem.ClaimSeven
namespace Go.Proofs.YtenebjaipfcflaaDoor
namespace Rows

/-- THE TIED CARD OF 'abacistlaw11.RefMoves'. -/
def refMovesCard : Claim7 := { stood := { row := refMovesRow, standIns := [], harness := (true, "19e292e9a8d9b5fc22ef4675e874340fcc066f4b83589b31a9e0009ffec48172"), looks := false }, kinds := [], alts := [], laidByText := true, laidKinds := [.data, .data, .data], laidTests := true, laidLooks := .later }
def RefMovesCardSaid : Prop := Claim7.holds Tryd.pinned (.plain (OpenSpec.ofChange refMovesSpec)) refMovesCard

/-- THE TIED CARD OF 'abacistlaw12.LexAgain'. -/
def lexAgainCard : Claim7 := { stood := { row := lexAgainRow, standIns := [], harness := (true, "19e292e9a8d9b5fc22ef4675e874340fcc066f4b83589b31a9e0009ffec48172"), looks := false }, kinds := [], alts := [], laidByText := true, laidKinds := [.data, .pinned], laidTests := true, laidLooks := .later }
def LexAgainCardSaid : Prop := Claim7.holds Tryd.pinned (.plain (OpenSpec.ofChange lexAgainSpec)) lexAgainCard

/-- THE SECOND FORM's CARD OF 'abacistlaw11.RefMoves'. -/
def refMovesUptoCard : Claim7 := { stood := { row := refMovesUptoRow, standIns := [], harness := (true, "19e292e9a8d9b5fc22ef4675e874340fcc066f4b83589b31a9e0009ffec48172"), looks := false }, kinds := [], alts := [], laidByText := true, laidKinds := [.data, .data, .data], laidTests := true, laidLooks := .later }
def RefMovesUptoCardSaid : Prop := Claim7.holds Tryd.pinned (.plain (OpenSpec.upto refMovesSpec)) refMovesUptoCard

/-- THE SECOND FORM's CARD OF 'abacistlaw12.LexAgain'. -/
def lexAgainUptoCard : Claim7 := { stood := { row := lexAgainUptoRow, standIns := [], harness := (true, "19e292e9a8d9b5fc22ef4675e874340fcc066f4b83589b31a9e0009ffec48172"), looks := false }, kinds := [], alts := [], laidByText := true, laidKinds := [.data, .pinned], laidTests := true, laidLooks := .later }
def LexAgainUptoCardSaid : Prop := Claim7.holds Tryd.pinned (.plain (OpenSpec.upto lexAgainSpec)) lexAgainUptoCard
end Rows
end Go.Proofs.YtenebjaipfcflaaDoor
