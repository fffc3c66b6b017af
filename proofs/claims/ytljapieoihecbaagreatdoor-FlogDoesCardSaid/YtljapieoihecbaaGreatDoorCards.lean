/-
  DERIVED. GIVEN WITH THE SEED: THE CARDS: each row of YtljapieoihecbaaGreatDoorRows.lean that lists a variable, with what it lists TIED to the program's text (the seventh form; the later family's looks); each row that meets fmt, with fmt's text TOLD by the authors' own Lean function (tested against real Go, not proved from fmt's source: count such statements apart). THE CARD IS WHAT COUNTS. Prove the row's statement (the work); the ties are given (YtljapieoihecbaaGreatDoorTie.lean); close each card by the builder's one call (the guide's Derived/Test/ToyasCard.lean, 'card_holds'). Laid BY PROGRAM, IN A SANDBOX (cutbox-door.mjs). By AI agents, Wed Nov 11 2026. No macro, syntax, notation, axiom, sorry.
-/
import Derived.Test.YtljapieoihecbaaGreatDoorRows
import GoSem.ClaimSeven
namespace Go.Proofs.YtljapieoihecbaaGreatDoor
namespace Rows

/-- THE TIED CARD OF 'abacistlaw20.FlogNames'. -/
def flogNamesCard : Claim7 := { stood := { row := flogNamesRow, standIns := [], harness := (true, "c18a3bb6a2132f2b7a3c91a7ba170e1b410a14e06a0d7edc8954bb8c25ba06c4"), looks := false }, kinds := [], alts := [], laidByText := true, laidKinds := [.data, .pinned], laidTests := true, laidLooks := .later }
def FlogNamesCardSaid : Prop := Claim7.holds Tryz.pinned (.plain (OpenSpec.ofChange flogNamesSpec)) flogNamesCard

/-- THE TIED CARD OF 'abacistlaw20.FlogRules'. -/
def flogRulesCard : Claim7 := { stood := { row := flogRulesRow, standIns := [], harness := (true, "c18a3bb6a2132f2b7a3c91a7ba170e1b410a14e06a0d7edc8954bb8c25ba06c4"), looks := false }, kinds := [], alts := [], laidByText := true, laidKinds := [.data, .pinned], laidTests := true, laidLooks := .later }
def FlogRulesCardSaid : Prop := Claim7.holds Tryz.pinned (.plain (OpenSpec.ofChange flogRulesSpec)) flogRulesCard

/-- THE TIED CARD OF 'abacistlaw20.FlogDoes'. -/
def flogDoesCard : Claim7 := { stood := { row := flogDoesRow, standIns := [], harness := (true, "c18a3bb6a2132f2b7a3c91a7ba170e1b410a14e06a0d7edc8954bb8c25ba06c4"), looks := false }, kinds := [], alts := [], laidByText := true, laidKinds := [.data, .pinned], laidTests := true, laidLooks := .later }
def FlogDoesCardSaid : Prop := Claim7.holds Tryz.pinned (.plain (OpenSpec.ofChange flogDoesSpec)) flogDoesCard

/-- THE SECOND FORM's CARD OF 'abacistlaw20.FlogNames'. -/
def flogNamesUptoCard : Claim7 := { stood := { row := flogNamesUptoRow, standIns := [], harness := (true, "c18a3bb6a2132f2b7a3c91a7ba170e1b410a14e06a0d7edc8954bb8c25ba06c4"), looks := false }, kinds := [], alts := [], laidByText := true, laidKinds := [.data, .pinned], laidTests := true, laidLooks := .later }
def FlogNamesUptoCardSaid : Prop := Claim7.holds Tryz.pinned (.plain (OpenSpec.upto flogNamesSpec)) flogNamesUptoCard

/-- THE SECOND FORM's CARD OF 'abacistlaw20.FlogRules'. -/
def flogRulesUptoCard : Claim7 := { stood := { row := flogRulesUptoRow, standIns := [], harness := (true, "c18a3bb6a2132f2b7a3c91a7ba170e1b410a14e06a0d7edc8954bb8c25ba06c4"), looks := false }, kinds := [], alts := [], laidByText := true, laidKinds := [.data, .pinned], laidTests := true, laidLooks := .later }
def FlogRulesUptoCardSaid : Prop := Claim7.holds Tryz.pinned (.plain (OpenSpec.upto flogRulesSpec)) flogRulesUptoCard

/-- THE SECOND FORM's CARD OF 'abacistlaw20.FlogDoes'. -/
def flogDoesUptoCard : Claim7 := { stood := { row := flogDoesUptoRow, standIns := [], harness := (true, "c18a3bb6a2132f2b7a3c91a7ba170e1b410a14e06a0d7edc8954bb8c25ba06c4"), looks := false }, kinds := [], alts := [], laidByText := true, laidKinds := [.data, .pinned], laidTests := true, laidLooks := .later }
def FlogDoesUptoCardSaid : Prop := Claim7.holds Tryz.pinned (.plain (OpenSpec.upto flogDoesSpec)) flogDoesUptoCard
end Rows
end Go.Proofs.YtljapieoihecbaaGreatDoor
