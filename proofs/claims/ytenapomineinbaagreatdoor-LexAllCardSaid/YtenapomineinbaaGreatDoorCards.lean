/-
  DERIVED. GIVEN WITH THE SEED: THE CARDS: each row of YtenapomineinbaaGreatDoorRows.lean that lists a variable, with what it lists TIED to the program's text (the seventh form; the later family's looks); each row that meets fmt, with fmt's text TOLD by the authors' own Lean function (tested against real Go, not proved from fmt's source: count such statements apart). THE CARD IS WHAT COUNTS. Prove the row's statement (the work); the ties are given (YtenapomineinbaaGreatDoorTie.lean); close each card by the builder's one call (the guide's Derived/Test/ToyasCard.lean, 'card_holds'). Laid BY PROGRAM, IN A SANDBOX (cutbox-door.mjs). By AI agents, Wed Nov 11 2026. No macro, syntax, notation, axiom, sorry.
-/
import Derived.Test.YtenapomineinbaaGreatDoorRows
import GoSem.ClaimSeven
namespace Go.Proofs.YtenapomineinbaaGreatDoor
namespace Rows

/-- THE TIED CARD OF 'abacistlaw07.NumtextTells'. -/
def numtextTellsCard : Claim7 := { stood := { row := numtextTellsRow, standIns := [], harness := (true, "7e145eef0bdad79ca9843c81f2e2b1e7051b0570ff792cf6cab9a97a1821f7da"), looks := false }, kinds := [], alts := [], laidByText := true, laidKinds := [.data, .pinned], laidTests := true, laidLooks := .later }
def NumtextTellsCardSaid : Prop := Claim7.holds Tryz.pinned (.plain (OpenSpec.ofChange numtextTellsSpec)) numtextTellsCard

/-- THE TIED CARD OF 'abacistlaw07.NumtextParse'. -/
def numtextParseCard : Claim7 := { stood := { row := numtextParseRow, standIns := [], harness := (true, "7e145eef0bdad79ca9843c81f2e2b1e7051b0570ff792cf6cab9a97a1821f7da"), looks := false }, kinds := [], alts := [], laidByText := true, laidKinds := [.data, .pinned], laidTests := true, laidLooks := .later }
def NumtextParseCardSaid : Prop := Claim7.holds Tryz.pinned (.plain (OpenSpec.ofChange numtextParseSpec)) numtextParseCard

/-- THE TIED CARD OF 'abacistlaw08.ValueLiterals'. -/
def valueLiteralsCard : Claim7 := { stood := { row := valueLiteralsRow, standIns := [], harness := (true, "7e145eef0bdad79ca9843c81f2e2b1e7051b0570ff792cf6cab9a97a1821f7da"), looks := false }, kinds := [], alts := [], laidByText := true, laidKinds := [.data, .pinned], laidTests := true, laidLooks := .later }
def ValueLiteralsCardSaid : Prop := Claim7.holds Tryz.pinned (.plain (OpenSpec.ofChange valueLiteralsSpec)) valueLiteralsCard

/-- THE TIED CARD OF 'abacistlaw08.ValueMakes'. -/
def valueMakesCard : Claim7 := { stood := { row := valueMakesRow, standIns := [], harness := (true, "7e145eef0bdad79ca9843c81f2e2b1e7051b0570ff792cf6cab9a97a1821f7da"), looks := false }, kinds := [], alts := [], laidByText := true, laidKinds := [.data, .pinned], laidTests := true, laidLooks := .later }
def ValueMakesCardSaid : Prop := Claim7.holds Tryz.pinned (.plain (OpenSpec.ofChange valueMakesSpec)) valueMakesCard

/-- THE TIED CARD OF 'abacistlaw09.CoerceCmp'. -/
def coerceCmpCard : Claim7 := { stood := { row := coerceCmpRow, standIns := [], harness := (true, "7e145eef0bdad79ca9843c81f2e2b1e7051b0570ff792cf6cab9a97a1821f7da"), looks := false }, kinds := [], alts := [], laidByText := true, laidKinds := [.data, .pinned], laidTests := true, laidLooks := .later }
def CoerceCmpCardSaid : Prop := Claim7.holds Tryz.pinned (.plain (OpenSpec.ofChange coerceCmpSpec)) coerceCmpCard

/-- THE TIED CARD OF 'abacistlaw09.CoerceNumbers'. -/
def coerceNumbersCard : Claim7 := { stood := { row := coerceNumbersRow, standIns := [], harness := (true, "7e145eef0bdad79ca9843c81f2e2b1e7051b0570ff792cf6cab9a97a1821f7da"), looks := false }, kinds := [], alts := [], laidByText := true, laidKinds := [.data, .pinned], laidTests := true, laidLooks := .later }
def CoerceNumbersCardSaid : Prop := Claim7.holds Tryz.pinned (.plain (OpenSpec.ofChange coerceNumbersSpec)) coerceNumbersCard

/-- THE TIED CARD OF 'abacistlaw09.CoerceOne'. -/
def coerceOneCard : Claim7 := { stood := { row := coerceOneRow, standIns := [], harness := (true, "7e145eef0bdad79ca9843c81f2e2b1e7051b0570ff792cf6cab9a97a1821f7da"), looks := false }, kinds := [], alts := [], laidByText := true, laidKinds := [.data, .pinned], laidTests := true, laidLooks := .later }
def CoerceOneCardSaid : Prop := Claim7.holds Tryz.pinned (.plain (OpenSpec.ofChange coerceOneSpec)) coerceOneCard

/-- THE TIED CARD OF 'abacistlaw12.LexAll'. -/
def lexAllCard : Claim7 := { stood := { row := lexAllRow, standIns := [], harness := (true, "7e145eef0bdad79ca9843c81f2e2b1e7051b0570ff792cf6cab9a97a1821f7da"), looks := false }, kinds := [], alts := [], laidByText := true, laidKinds := [.data, .pinned], laidTests := true, laidLooks := .later }
def LexAllCardSaid : Prop := Claim7.holds Tryz.pinned (.plain (OpenSpec.ofChange lexAllSpec)) lexAllCard

/-- THE SECOND FORM's CARD OF 'abacistlaw07.NumtextTells'. -/
def numtextTellsUptoCard : Claim7 := { stood := { row := numtextTellsUptoRow, standIns := [], harness := (true, "7e145eef0bdad79ca9843c81f2e2b1e7051b0570ff792cf6cab9a97a1821f7da"), looks := false }, kinds := [], alts := [], laidByText := true, laidKinds := [.data, .pinned], laidTests := true, laidLooks := .later }
def NumtextTellsUptoCardSaid : Prop := Claim7.holds Tryz.pinned (.plain (OpenSpec.upto numtextTellsSpec)) numtextTellsUptoCard

/-- THE SECOND FORM's CARD OF 'abacistlaw07.NumtextParse'. -/
def numtextParseUptoCard : Claim7 := { stood := { row := numtextParseUptoRow, standIns := [], harness := (true, "7e145eef0bdad79ca9843c81f2e2b1e7051b0570ff792cf6cab9a97a1821f7da"), looks := false }, kinds := [], alts := [], laidByText := true, laidKinds := [.data, .pinned], laidTests := true, laidLooks := .later }
def NumtextParseUptoCardSaid : Prop := Claim7.holds Tryz.pinned (.plain (OpenSpec.upto numtextParseSpec)) numtextParseUptoCard

/-- THE SECOND FORM's CARD OF 'abacistlaw08.ValueLiterals'. -/
def valueLiteralsUptoCard : Claim7 := { stood := { row := valueLiteralsUptoRow, standIns := [], harness := (true, "7e145eef0bdad79ca9843c81f2e2b1e7051b0570ff792cf6cab9a97a1821f7da"), looks := false }, kinds := [], alts := [], laidByText := true, laidKinds := [.data, .pinned], laidTests := true, laidLooks := .later }
def ValueLiteralsUptoCardSaid : Prop := Claim7.holds Tryz.pinned (.plain (OpenSpec.upto valueLiteralsSpec)) valueLiteralsUptoCard

/-- THE SECOND FORM's CARD OF 'abacistlaw08.ValueMakes'. -/
def valueMakesUptoCard : Claim7 := { stood := { row := valueMakesUptoRow, standIns := [], harness := (true, "7e145eef0bdad79ca9843c81f2e2b1e7051b0570ff792cf6cab9a97a1821f7da"), looks := false }, kinds := [], alts := [], laidByText := true, laidKinds := [.data, .pinned], laidTests := true, laidLooks := .later }
def ValueMakesUptoCardSaid : Prop := Claim7.holds Tryz.pinned (.plain (OpenSpec.upto valueMakesSpec)) valueMakesUptoCard

/-- THE SECOND FORM's CARD OF 'abacistlaw09.CoerceCmp'. -/
def coerceCmpUptoCard : Claim7 := { stood := { row := coerceCmpUptoRow, standIns := [], harness := (true, "7e145eef0bdad79ca9843c81f2e2b1e7051b0570ff792cf6cab9a97a1821f7da"), looks := false }, kinds := [], alts := [], laidByText := true, laidKinds := [.data, .pinned], laidTests := true, laidLooks := .later }
def CoerceCmpUptoCardSaid : Prop := Claim7.holds Tryz.pinned (.plain (OpenSpec.upto coerceCmpSpec)) coerceCmpUptoCard

/-- THE SECOND FORM's CARD OF 'abacistlaw09.CoerceNumbers'. -/
def coerceNumbersUptoCard : Claim7 := { stood := { row := coerceNumbersUptoRow, standIns := [], harness := (true, "7e145eef0bdad79ca9843c81f2e2b1e7051b0570ff792cf6cab9a97a1821f7da"), looks := false }, kinds := [], alts := [], laidByText := true, laidKinds := [.data, .pinned], laidTests := true, laidLooks := .later }
def CoerceNumbersUptoCardSaid : Prop := Claim7.holds Tryz.pinned (.plain (OpenSpec.upto coerceNumbersSpec)) coerceNumbersUptoCard

/-- THE SECOND FORM's CARD OF 'abacistlaw09.CoerceOne'. -/
def coerceOneUptoCard : Claim7 := { stood := { row := coerceOneUptoRow, standIns := [], harness := (true, "7e145eef0bdad79ca9843c81f2e2b1e7051b0570ff792cf6cab9a97a1821f7da"), looks := false }, kinds := [], alts := [], laidByText := true, laidKinds := [.data, .pinned], laidTests := true, laidLooks := .later }
def CoerceOneUptoCardSaid : Prop := Claim7.holds Tryz.pinned (.plain (OpenSpec.upto coerceOneSpec)) coerceOneUptoCard

/-- THE SECOND FORM's CARD OF 'abacistlaw12.LexAll'. -/
def lexAllUptoCard : Claim7 := { stood := { row := lexAllUptoRow, standIns := [], harness := (true, "7e145eef0bdad79ca9843c81f2e2b1e7051b0570ff792cf6cab9a97a1821f7da"), looks := false }, kinds := [], alts := [], laidByText := true, laidKinds := [.data, .pinned], laidTests := true, laidLooks := .later }
def LexAllUptoCardSaid : Prop := Claim7.holds Tryz.pinned (.plain (OpenSpec.upto lexAllSpec)) lexAllUptoCard
end Rows
end Go.Proofs.YtenapomineinbaaGreatDoor
