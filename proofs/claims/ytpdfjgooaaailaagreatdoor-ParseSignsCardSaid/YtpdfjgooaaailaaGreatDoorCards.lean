/-
  DERIVED. GIVEN WITH THE SEED: THE CARDS: each row of YtpdfjgooaaailaaGreatDoorRows.lean that lists a variable, with what it lists TIED to the program's text (the seventh form; the later family's looks); each row that meets fmt, with fmt's text TOLD by the authors' own Lean function (tested against real Go, not proved from fmt's source: count such statements apart). THE CARD IS WHAT COUNTS. Prove the row's statement (the work); the ties are given (YtpdfjgooaaailaaGreatDoorTie.lean); close each card by the builder's one call (the guide's Derived/Test/ToyasCard.lean, 'card_holds'). Laid BY PROGRAM, IN A SANDBOX (cutbox-door.mjs). By AI agents, Wed Nov 11 2026. No macro, syntax, notation, axiom, sorry.
-/
import Derived.Test.YtpdfjgooaaailaaGreatDoorRows
import GoSem.ClaimSeven
namespace Go.Proofs.YtpdfjgooaaailaaGreatDoor
namespace Rows

/-- THE TIED CARD OF 'abacistlaw21.FtextNames'. -/
def ftextNamesCard : Claim7 := { stood := { row := ftextNamesRow, standIns := [], harness := (true, "14ea099146b05f7f57cdebe8edc7335e19afdd2643791bd4b93ac225ddd361f9"), looks := false }, kinds := [], alts := [], laidByText := true, laidKinds := [.data, .pinned], laidTests := true, laidLooks := .later }
def FtextNamesCardSaid : Prop := Claim7.holds Tryz.pinned (.plain (OpenSpec.ofChange ftextNamesSpec)) ftextNamesCard

/-- THE TIED CARD OF 'abacistlaw21.FtextRules'. -/
def ftextRulesCard : Claim7 := { stood := { row := ftextRulesRow, standIns := [], harness := (true, "14ea099146b05f7f57cdebe8edc7335e19afdd2643791bd4b93ac225ddd361f9"), looks := false }, kinds := [], alts := [], laidByText := true, laidKinds := [.data, .pinned], laidTests := true, laidLooks := .later }
def FtextRulesCardSaid : Prop := Claim7.holds Tryz.pinned (.plain (OpenSpec.ofChange ftextRulesSpec)) ftextRulesCard

/-- THE TIED CARD OF 'abacistlaw14.ParseSigns'. -/
def parseSignsCard : Claim7 := { stood := { row := parseSignsRow, standIns := [], harness := (true, "14ea099146b05f7f57cdebe8edc7335e19afdd2643791bd4b93ac225ddd361f9"), looks := false }, kinds := [], alts := [], laidByText := true, laidKinds := [.data, .pinned], laidTests := true, laidLooks := .later }
def ParseSignsCardSaid : Prop := Claim7.holds Tryz.pinned (.plain (OpenSpec.ofChange parseSignsSpec)) parseSignsCard

/-- THE SECOND FORM's CARD OF 'abacistlaw21.FtextNames'. -/
def ftextNamesUptoCard : Claim7 := { stood := { row := ftextNamesUptoRow, standIns := [], harness := (true, "14ea099146b05f7f57cdebe8edc7335e19afdd2643791bd4b93ac225ddd361f9"), looks := false }, kinds := [], alts := [], laidByText := true, laidKinds := [.data, .pinned], laidTests := true, laidLooks := .later }
def FtextNamesUptoCardSaid : Prop := Claim7.holds Tryz.pinned (.plain (OpenSpec.upto ftextNamesSpec)) ftextNamesUptoCard

/-- THE SECOND FORM's CARD OF 'abacistlaw21.FtextRules'. -/
def ftextRulesUptoCard : Claim7 := { stood := { row := ftextRulesUptoRow, standIns := [], harness := (true, "14ea099146b05f7f57cdebe8edc7335e19afdd2643791bd4b93ac225ddd361f9"), looks := false }, kinds := [], alts := [], laidByText := true, laidKinds := [.data, .pinned], laidTests := true, laidLooks := .later }
def FtextRulesUptoCardSaid : Prop := Claim7.holds Tryz.pinned (.plain (OpenSpec.upto ftextRulesSpec)) ftextRulesUptoCard

/-- THE SECOND FORM's CARD OF 'abacistlaw14.ParseSigns'. -/
def parseSignsUptoCard : Claim7 := { stood := { row := parseSignsUptoRow, standIns := [], harness := (true, "14ea099146b05f7f57cdebe8edc7335e19afdd2643791bd4b93ac225ddd361f9"), looks := false }, kinds := [], alts := [], laidByText := true, laidKinds := [.data, .pinned], laidTests := true, laidLooks := .later }
def ParseSignsUptoCardSaid : Prop := Claim7.holds Tryz.pinned (.plain (OpenSpec.upto parseSignsSpec)) parseSignsUptoCard
end Rows
end Go.Proofs.YtpdfjgooaaailaaGreatDoor
