/-
  DERIVED. GIVEN WITH THE SEED: THE CARDS: each row of YthhpnecamilieaaGreatDoorRows.lean that lists a variable, with what it lists TIED to the program's text (the seventh form; the later family's looks); each row that meets fmt, with fmt's text TOLD by the authors' own Lean function (tested against real Go, not proved from fmt's source: count such statements apart). THE CARD IS WHAT COUNTS. Prove the row's statement (the work); the ties are given (YthhpnecamilieaaGreatDoorTie.lean); close each card by the builder's one call (the guide's Derived/Test/ToyasCard.lean, 'card_holds'). Laid BY PROGRAM, IN A SANDBOX (cutbox-door.mjs). By AI agents, Wed Nov 11 2026. No macro, syntax, notation, axiom, sorry.
-/
import Derived.Test.YthhpnecamilieaaGreatDoorRows
import GoSem.ClaimSeven
namespace Go.Proofs.YthhpnecamilieaaGreatDoor
namespace Rows

/-- THE TIED CARD OF 'abacistlaw13.AstTells'. -/
def astTellsCard : Claim7 := { stood := { row := astTellsRow, standIns := [], harness := (true, "04a8ae55e3eaba910ecf5b60ba51d516ddc34ced321a76d02eb6e11a3286a995"), looks := false }, kinds := [], alts := [], laidByText := true, laidKinds := [.data, .pinned], laidTests := true, laidLooks := .later }
def AstTellsCardSaid : Prop := Claim7.holds Tryz.pinned (.plain (OpenSpec.ofChange astTellsSpec)) astTellsCard

/-- THE TIED CARD OF 'abacistlaw13.AstMakes'. -/
def astMakesCard : Claim7 := { stood := { row := astMakesRow, standIns := [], harness := (true, "04a8ae55e3eaba910ecf5b60ba51d516ddc34ced321a76d02eb6e11a3286a995"), looks := false }, kinds := [], alts := [], laidByText := true, laidKinds := [.data, .pinned], laidTests := true, laidLooks := .later }
def AstMakesCardSaid : Prop := Claim7.holds Tryz.pinned (.plain (OpenSpec.ofChange astMakesSpec)) astMakesCard

/-- THE TIED CARD OF 'abacistlaw13.AstParts'. -/
def astPartsCard : Claim7 := { stood := { row := astPartsRow, standIns := [], harness := (true, "04a8ae55e3eaba910ecf5b60ba51d516ddc34ced321a76d02eb6e11a3286a995"), looks := false }, kinds := [], alts := [], laidByText := true, laidKinds := [.data, .pinned], laidTests := true, laidLooks := .later }
def AstPartsCardSaid : Prop := Claim7.holds Tryz.pinned (.plain (OpenSpec.ofChange astPartsSpec)) astPartsCard

/-- THE TIED CARD OF 'abacistlaw16.RewriteChanges'. -/
def rewriteChangesCard : Claim7 := { stood := { row := rewriteChangesRow, standIns := [], harness := (true, "04a8ae55e3eaba910ecf5b60ba51d516ddc34ced321a76d02eb6e11a3286a995"), looks := false }, kinds := [], alts := [], laidByText := true, laidKinds := [.data, .pinned], laidTests := true, laidLooks := .later }
def RewriteChangesCardSaid : Prop := Claim7.holds Tryz.pinned (.plain (OpenSpec.ofChange rewriteChangesSpec)) rewriteChangesCard

/-- THE TIED CARD OF 'abacistlaw16.RewriteBack'. -/
def rewriteBackCard : Claim7 := { stood := { row := rewriteBackRow, standIns := [], harness := (true, "04a8ae55e3eaba910ecf5b60ba51d516ddc34ced321a76d02eb6e11a3286a995"), looks := false }, kinds := [], alts := [], laidByText := true, laidKinds := [.data, .pinned], laidTests := true, laidLooks := .later }
def RewriteBackCardSaid : Prop := Claim7.holds Tryz.pinned (.plain (OpenSpec.ofChange rewriteBackSpec)) rewriteBackCard

/-- THE TIED CARD OF 'abacistlaw16.RewriteNames'. -/
def rewriteNamesCard : Claim7 := { stood := { row := rewriteNamesRow, standIns := [], harness := (true, "04a8ae55e3eaba910ecf5b60ba51d516ddc34ced321a76d02eb6e11a3286a995"), looks := false }, kinds := [], alts := [], laidByText := true, laidKinds := [.data, .pinned], laidTests := true, laidLooks := .later }
def RewriteNamesCardSaid : Prop := Claim7.holds Tryz.pinned (.plain (OpenSpec.ofChange rewriteNamesSpec)) rewriteNamesCard

/-- THE TIED CARD OF 'abacistlaw16.RewriteMoves'. -/
def rewriteMovesCard : Claim7 := { stood := { row := rewriteMovesRow, standIns := [], harness := (true, "04a8ae55e3eaba910ecf5b60ba51d516ddc34ced321a76d02eb6e11a3286a995"), looks := false }, kinds := [], alts := [], laidByText := true, laidKinds := [.data, .pinned], laidTests := true, laidLooks := .later }
def RewriteMovesCardSaid : Prop := Claim7.holds Tryz.pinned (.plain (OpenSpec.ofChange rewriteMovesSpec)) rewriteMovesCard

/-- THE TIED CARD OF 'abacistlaw20.FlogDoes'. -/
def flogDoesCard : Claim7 := { stood := { row := flogDoesRow, standIns := [], harness := (true, "04a8ae55e3eaba910ecf5b60ba51d516ddc34ced321a76d02eb6e11a3286a995"), looks := false }, kinds := [], alts := [], laidByText := true, laidKinds := [.data, .pinned], laidTests := true, laidLooks := .later }
def FlogDoesCardSaid : Prop := Claim7.holds Tryz.pinned (.plain (OpenSpec.ofChange flogDoesSpec)) flogDoesCard

/-- THE TIED CARD OF 'abacistlaw20.FlogNames'. -/
def flogNamesCard : Claim7 := { stood := { row := flogNamesRow, standIns := [], harness := (true, "04a8ae55e3eaba910ecf5b60ba51d516ddc34ced321a76d02eb6e11a3286a995"), looks := false }, kinds := [], alts := [], laidByText := true, laidKinds := [.data, .pinned], laidTests := true, laidLooks := .later }
def FlogNamesCardSaid : Prop := Claim7.holds Tryz.pinned (.plain (OpenSpec.ofChange flogNamesSpec)) flogNamesCard

/-- THE TIED CARD OF 'abacistlaw20.FlogRules'. -/
def flogRulesCard : Claim7 := { stood := { row := flogRulesRow, standIns := [], harness := (true, "04a8ae55e3eaba910ecf5b60ba51d516ddc34ced321a76d02eb6e11a3286a995"), looks := false }, kinds := [], alts := [], laidByText := true, laidKinds := [.data, .pinned], laidTests := true, laidLooks := .later }
def FlogRulesCardSaid : Prop := Claim7.holds Tryz.pinned (.plain (OpenSpec.ofChange flogRulesSpec)) flogRulesCard

/-- THE TIED CARD OF 'abacistlaw22.FlookNames'. -/
def flookNamesCard : Claim7 := { stood := { row := flookNamesRow, standIns := [], harness := (true, "04a8ae55e3eaba910ecf5b60ba51d516ddc34ced321a76d02eb6e11a3286a995"), looks := false }, kinds := [], alts := [], laidByText := true, laidKinds := [.data, .pinned], laidTests := true, laidLooks := .later }
def FlookNamesCardSaid : Prop := Claim7.holds Tryz.pinned (.plain (OpenSpec.ofChange flookNamesSpec)) flookNamesCard

/-- THE TIED CARD OF 'abacistlaw22.FlookFinds'. -/
def flookFindsCard : Claim7 := { stood := { row := flookFindsRow, standIns := [], harness := (true, "04a8ae55e3eaba910ecf5b60ba51d516ddc34ced321a76d02eb6e11a3286a995"), looks := false }, kinds := [], alts := [], laidByText := true, laidKinds := [.data, .pinned], laidTests := true, laidLooks := .later }
def FlookFindsCardSaid : Prop := Claim7.holds Tryz.pinned (.plain (OpenSpec.ofChange flookFindsSpec)) flookFindsCard

/-- THE SECOND FORM's CARD OF 'abacistlaw13.AstTells'. -/
def astTellsUptoCard : Claim7 := { stood := { row := astTellsUptoRow, standIns := [], harness := (true, "04a8ae55e3eaba910ecf5b60ba51d516ddc34ced321a76d02eb6e11a3286a995"), looks := false }, kinds := [], alts := [], laidByText := true, laidKinds := [.data, .pinned], laidTests := true, laidLooks := .later }
def AstTellsUptoCardSaid : Prop := Claim7.holds Tryz.pinned (.plain (OpenSpec.upto astTellsSpec)) astTellsUptoCard

/-- THE SECOND FORM's CARD OF 'abacistlaw13.AstMakes'. -/
def astMakesUptoCard : Claim7 := { stood := { row := astMakesUptoRow, standIns := [], harness := (true, "04a8ae55e3eaba910ecf5b60ba51d516ddc34ced321a76d02eb6e11a3286a995"), looks := false }, kinds := [], alts := [], laidByText := true, laidKinds := [.data, .pinned], laidTests := true, laidLooks := .later }
def AstMakesUptoCardSaid : Prop := Claim7.holds Tryz.pinned (.plain (OpenSpec.upto astMakesSpec)) astMakesUptoCard

/-- THE SECOND FORM's CARD OF 'abacistlaw13.AstParts'. -/
def astPartsUptoCard : Claim7 := { stood := { row := astPartsUptoRow, standIns := [], harness := (true, "04a8ae55e3eaba910ecf5b60ba51d516ddc34ced321a76d02eb6e11a3286a995"), looks := false }, kinds := [], alts := [], laidByText := true, laidKinds := [.data, .pinned], laidTests := true, laidLooks := .later }
def AstPartsUptoCardSaid : Prop := Claim7.holds Tryz.pinned (.plain (OpenSpec.upto astPartsSpec)) astPartsUptoCard

/-- THE SECOND FORM's CARD OF 'abacistlaw16.RewriteChanges'. -/
def rewriteChangesUptoCard : Claim7 := { stood := { row := rewriteChangesUptoRow, standIns := [], harness := (true, "04a8ae55e3eaba910ecf5b60ba51d516ddc34ced321a76d02eb6e11a3286a995"), looks := false }, kinds := [], alts := [], laidByText := true, laidKinds := [.data, .pinned], laidTests := true, laidLooks := .later }
def RewriteChangesUptoCardSaid : Prop := Claim7.holds Tryz.pinned (.plain (OpenSpec.upto rewriteChangesSpec)) rewriteChangesUptoCard

/-- THE SECOND FORM's CARD OF 'abacistlaw16.RewriteBack'. -/
def rewriteBackUptoCard : Claim7 := { stood := { row := rewriteBackUptoRow, standIns := [], harness := (true, "04a8ae55e3eaba910ecf5b60ba51d516ddc34ced321a76d02eb6e11a3286a995"), looks := false }, kinds := [], alts := [], laidByText := true, laidKinds := [.data, .pinned], laidTests := true, laidLooks := .later }
def RewriteBackUptoCardSaid : Prop := Claim7.holds Tryz.pinned (.plain (OpenSpec.upto rewriteBackSpec)) rewriteBackUptoCard

/-- THE SECOND FORM's CARD OF 'abacistlaw16.RewriteNames'. -/
def rewriteNamesUptoCard : Claim7 := { stood := { row := rewriteNamesUptoRow, standIns := [], harness := (true, "04a8ae55e3eaba910ecf5b60ba51d516ddc34ced321a76d02eb6e11a3286a995"), looks := false }, kinds := [], alts := [], laidByText := true, laidKinds := [.data, .pinned], laidTests := true, laidLooks := .later }
def RewriteNamesUptoCardSaid : Prop := Claim7.holds Tryz.pinned (.plain (OpenSpec.upto rewriteNamesSpec)) rewriteNamesUptoCard

/-- THE SECOND FORM's CARD OF 'abacistlaw16.RewriteMoves'. -/
def rewriteMovesUptoCard : Claim7 := { stood := { row := rewriteMovesUptoRow, standIns := [], harness := (true, "04a8ae55e3eaba910ecf5b60ba51d516ddc34ced321a76d02eb6e11a3286a995"), looks := false }, kinds := [], alts := [], laidByText := true, laidKinds := [.data, .pinned], laidTests := true, laidLooks := .later }
def RewriteMovesUptoCardSaid : Prop := Claim7.holds Tryz.pinned (.plain (OpenSpec.upto rewriteMovesSpec)) rewriteMovesUptoCard

/-- THE SECOND FORM's CARD OF 'abacistlaw20.FlogDoes'. -/
def flogDoesUptoCard : Claim7 := { stood := { row := flogDoesUptoRow, standIns := [], harness := (true, "04a8ae55e3eaba910ecf5b60ba51d516ddc34ced321a76d02eb6e11a3286a995"), looks := false }, kinds := [], alts := [], laidByText := true, laidKinds := [.data, .pinned], laidTests := true, laidLooks := .later }
def FlogDoesUptoCardSaid : Prop := Claim7.holds Tryz.pinned (.plain (OpenSpec.upto flogDoesSpec)) flogDoesUptoCard

/-- THE SECOND FORM's CARD OF 'abacistlaw20.FlogNames'. -/
def flogNamesUptoCard : Claim7 := { stood := { row := flogNamesUptoRow, standIns := [], harness := (true, "04a8ae55e3eaba910ecf5b60ba51d516ddc34ced321a76d02eb6e11a3286a995"), looks := false }, kinds := [], alts := [], laidByText := true, laidKinds := [.data, .pinned], laidTests := true, laidLooks := .later }
def FlogNamesUptoCardSaid : Prop := Claim7.holds Tryz.pinned (.plain (OpenSpec.upto flogNamesSpec)) flogNamesUptoCard

/-- THE SECOND FORM's CARD OF 'abacistlaw20.FlogRules'. -/
def flogRulesUptoCard : Claim7 := { stood := { row := flogRulesUptoRow, standIns := [], harness := (true, "04a8ae55e3eaba910ecf5b60ba51d516ddc34ced321a76d02eb6e11a3286a995"), looks := false }, kinds := [], alts := [], laidByText := true, laidKinds := [.data, .pinned], laidTests := true, laidLooks := .later }
def FlogRulesUptoCardSaid : Prop := Claim7.holds Tryz.pinned (.plain (OpenSpec.upto flogRulesSpec)) flogRulesUptoCard

/-- THE SECOND FORM's CARD OF 'abacistlaw22.FlookNames'. -/
def flookNamesUptoCard : Claim7 := { stood := { row := flookNamesUptoRow, standIns := [], harness := (true, "04a8ae55e3eaba910ecf5b60ba51d516ddc34ced321a76d02eb6e11a3286a995"), looks := false }, kinds := [], alts := [], laidByText := true, laidKinds := [.data, .pinned], laidTests := true, laidLooks := .later }
def FlookNamesUptoCardSaid : Prop := Claim7.holds Tryz.pinned (.plain (OpenSpec.upto flookNamesSpec)) flookNamesUptoCard

/-- THE SECOND FORM's CARD OF 'abacistlaw22.FlookFinds'. -/
def flookFindsUptoCard : Claim7 := { stood := { row := flookFindsUptoRow, standIns := [], harness := (true, "04a8ae55e3eaba910ecf5b60ba51d516ddc34ced321a76d02eb6e11a3286a995"), looks := false }, kinds := [], alts := [], laidByText := true, laidKinds := [.data, .pinned], laidTests := true, laidLooks := .later }
def FlookFindsUptoCardSaid : Prop := Claim7.holds Tryz.pinned (.plain (OpenSpec.upto flookFindsSpec)) flookFindsUptoCard
end Rows
end Go.Proofs.YthhpnecamilieaaGreatDoor
