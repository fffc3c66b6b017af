/-
  DERIVED. GIVEN WITH THE SEED: THE CARDS: each row of YtcdcijhfjiahkaaDoorRRows.lean that lists a variable, with what it lists TIED to the program's text (the seventh form; the later family's looks); each row that meets fmt, with fmt's text TOLD by the authors' own Lean function (tested against real Go, not proved from fmt's source: count such statements apart). THE CARD IS WHAT COUNTS. Prove the row's statement (the work); the ties are given (YtcdcijhfjiahkaaDoorRTie.lean); close each card by the builder's one call (the guide's Derived/Test/ToyasCard.lean, 'card_holds'). Laid BY PROGRAM, IN A SANDBOX (cutbox-door.mjs). By AI agents, Wed Nov 11 2026. No macro, syntax, notation, axiom, sorry.
-/
import Derived.Test.YtcdcijhfjiahkaaDoorRRows
import GoSem.ClaimSeven
namespace Go.Proofs.YtcdcijhfjiahkaaDoorR
namespace Rows

/-- THE TIED CARD OF 'abacistlaw01.NatSmalls'. -/
def natSmallsCard : Claim7 := { stood := { row := natSmallsRow, standIns := [], harness := (true, "40a311fae64a5566bd75c96b77f83a8b71a3cfa803c6afb4f5722c463187a793"), looks := false }, kinds := [], alts := [], laidByText := true, laidKinds := [.data, .pinned], laidTests := true, laidLooks := .later }
def NatSmallsCardSaid : Prop := Claim7.holds Tryd.pinned (.plain (OpenSpec.ofChange natSmallsSpec)) natSmallsCard

/-- THE TIED CARD OF 'abacistlaw10.AddrTexts'. -/
def addrTextsCard : Claim7 := { stood := { row := addrTextsRow, standIns := [], harness := (true, "40a311fae64a5566bd75c96b77f83a8b71a3cfa803c6afb4f5722c463187a793"), looks := false }, kinds := [], alts := [], laidByText := true, laidKinds := [.data, .data, .data], laidTests := true, laidLooks := .later }
def AddrTextsCardSaid : Prop := Claim7.holds Tryd.pinned (.plain (OpenSpec.ofChange addrTextsSpec)) addrTextsCard

/-- THE TIED CARD OF 'abacistlaw10.AddrAreas'. -/
def addrAreasCard : Claim7 := { stood := { row := addrAreasRow, standIns := [], harness := (true, "40a311fae64a5566bd75c96b77f83a8b71a3cfa803c6afb4f5722c463187a793"), looks := false }, kinds := [], alts := [], laidByText := true, laidKinds := [.data, .data, .data], laidTests := true, laidLooks := .later }
def AddrAreasCardSaid : Prop := Claim7.holds Tryd.pinned (.plain (OpenSpec.ofChange addrAreasSpec)) addrAreasCard

/-- THE TIED CARD OF 'abacistlaw01.NatTwo'. -/
def natTwoCard : Claim7 := { stood := { row := natTwoRow, standIns := [], harness := (true, "40a311fae64a5566bd75c96b77f83a8b71a3cfa803c6afb4f5722c463187a793"), looks := false }, kinds := [], alts := [], laidByText := true, laidKinds := [.data, .pinned], laidTests := true, laidLooks := .later }
def NatTwoCardSaid : Prop := Claim7.holds Tryd.pinned (.plain (OpenSpec.ofChange natTwoSpec)) natTwoCard

/-- THE TIED CARD OF 'abacistlaw01.NatRules'. -/
def natRulesCard : Claim7 := { stood := { row := natRulesRow, standIns := [], harness := (true, "40a311fae64a5566bd75c96b77f83a8b71a3cfa803c6afb4f5722c463187a793"), looks := false }, kinds := [], alts := [], laidByText := true, laidKinds := [.data, .pinned], laidTests := true, laidLooks := .later }
def NatRulesCardSaid : Prop := Claim7.holds Tryd.pinned (.plain (OpenSpec.ofChange natRulesSpec)) natRulesCard

/-- THE TIED CARD OF 'abacistlaw40.CmdLines'. -/
def cmdLinesCard : Claim7 := { stood := { row := cmdLinesRow, standIns := [], harness := (true, "40a311fae64a5566bd75c96b77f83a8b71a3cfa803c6afb4f5722c463187a793"), looks := false }, kinds := [], alts := [], laidByText := true, laidKinds := [.data, .pinned], laidTests := true, laidLooks := .later }
def CmdLinesCardSaid : Prop := Claim7.holds Tryd.pinned (.plain (OpenSpec.ofChange cmdLinesSpec)) cmdLinesCard

/-- THE TIED CARD OF 'abacistlaw40.CmdParse'. -/
def cmdParseCard : Claim7 := { stood := { row := cmdParseRow, standIns := [], harness := (true, "40a311fae64a5566bd75c96b77f83a8b71a3cfa803c6afb4f5722c463187a793"), looks := false }, kinds := [], alts := [], laidByText := true, laidKinds := [.data, .pinned], laidTests := true, laidLooks := .later }
def CmdParseCardSaid : Prop := Claim7.holds Tryd.pinned (.plain (OpenSpec.ofChange cmdParseSpec)) cmdParseCard

/-- THE TIED CARD OF 'abacistlaw40.CmdWords'. -/
def cmdWordsCard : Claim7 := { stood := { row := cmdWordsRow, standIns := [], harness := (true, "40a311fae64a5566bd75c96b77f83a8b71a3cfa803c6afb4f5722c463187a793"), looks := false }, kinds := [], alts := [], laidByText := true, laidKinds := [.data, .pinned], laidTests := true, laidLooks := .later }
def CmdWordsCardSaid : Prop := Claim7.holds Tryd.pinned (.plain (OpenSpec.ofChange cmdWordsSpec)) cmdWordsCard

/-- THE TIED CARD OF 'abacistlaw03.DecTexts'. -/
def decTextsCard : Claim7 := { stood := { row := decTextsRow, standIns := [], harness := (true, "40a311fae64a5566bd75c96b77f83a8b71a3cfa803c6afb4f5722c463187a793"), looks := false }, kinds := [], alts := [], laidByText := true, laidKinds := [.data, .pinned], laidTests := true, laidLooks := .later }
def DecTextsCardSaid : Prop := Claim7.holds Tryd.pinned (.plain (OpenSpec.ofChange decTextsSpec)) decTextsCard

/-- THE TIED CARD OF 'abacistlaw03.DecParse'. -/
def decParseCard : Claim7 := { stood := { row := decParseRow, standIns := [], harness := (true, "40a311fae64a5566bd75c96b77f83a8b71a3cfa803c6afb4f5722c463187a793"), looks := false }, kinds := [], alts := [], laidByText := true, laidKinds := [.data, .pinned], laidTests := true, laidLooks := .later }
def DecParseCardSaid : Prop := Claim7.holds Tryd.pinned (.plain (OpenSpec.ofChange decParseSpec)) decParseCard

/-- THE SECOND FORM's CARD OF 'abacistlaw01.NatSmalls'. -/
def natSmallsUptoCard : Claim7 := { stood := { row := natSmallsUptoRow, standIns := [], harness := (true, "40a311fae64a5566bd75c96b77f83a8b71a3cfa803c6afb4f5722c463187a793"), looks := false }, kinds := [], alts := [], laidByText := true, laidKinds := [.data, .pinned], laidTests := true, laidLooks := .later }
def NatSmallsUptoCardSaid : Prop := Claim7.holds Tryd.pinned (.plain (OpenSpec.upto natSmallsSpec)) natSmallsUptoCard

/-- THE SECOND FORM's CARD OF 'abacistlaw10.AddrTexts'. -/
def addrTextsUptoCard : Claim7 := { stood := { row := addrTextsUptoRow, standIns := [], harness := (true, "40a311fae64a5566bd75c96b77f83a8b71a3cfa803c6afb4f5722c463187a793"), looks := false }, kinds := [], alts := [], laidByText := true, laidKinds := [.data, .data, .data], laidTests := true, laidLooks := .later }
def AddrTextsUptoCardSaid : Prop := Claim7.holds Tryd.pinned (.plain (OpenSpec.upto addrTextsSpec)) addrTextsUptoCard

/-- THE SECOND FORM's CARD OF 'abacistlaw10.AddrAreas'. -/
def addrAreasUptoCard : Claim7 := { stood := { row := addrAreasUptoRow, standIns := [], harness := (true, "40a311fae64a5566bd75c96b77f83a8b71a3cfa803c6afb4f5722c463187a793"), looks := false }, kinds := [], alts := [], laidByText := true, laidKinds := [.data, .data, .data], laidTests := true, laidLooks := .later }
def AddrAreasUptoCardSaid : Prop := Claim7.holds Tryd.pinned (.plain (OpenSpec.upto addrAreasSpec)) addrAreasUptoCard

/-- THE SECOND FORM's CARD OF 'abacistlaw01.NatTwo'. -/
def natTwoUptoCard : Claim7 := { stood := { row := natTwoUptoRow, standIns := [], harness := (true, "40a311fae64a5566bd75c96b77f83a8b71a3cfa803c6afb4f5722c463187a793"), looks := false }, kinds := [], alts := [], laidByText := true, laidKinds := [.data, .pinned], laidTests := true, laidLooks := .later }
def NatTwoUptoCardSaid : Prop := Claim7.holds Tryd.pinned (.plain (OpenSpec.upto natTwoSpec)) natTwoUptoCard

/-- THE SECOND FORM's CARD OF 'abacistlaw01.NatRules'. -/
def natRulesUptoCard : Claim7 := { stood := { row := natRulesUptoRow, standIns := [], harness := (true, "40a311fae64a5566bd75c96b77f83a8b71a3cfa803c6afb4f5722c463187a793"), looks := false }, kinds := [], alts := [], laidByText := true, laidKinds := [.data, .pinned], laidTests := true, laidLooks := .later }
def NatRulesUptoCardSaid : Prop := Claim7.holds Tryd.pinned (.plain (OpenSpec.upto natRulesSpec)) natRulesUptoCard

/-- THE SECOND FORM's CARD OF 'abacistlaw40.CmdLines'. -/
def cmdLinesUptoCard : Claim7 := { stood := { row := cmdLinesUptoRow, standIns := [], harness := (true, "40a311fae64a5566bd75c96b77f83a8b71a3cfa803c6afb4f5722c463187a793"), looks := false }, kinds := [], alts := [], laidByText := true, laidKinds := [.data, .pinned], laidTests := true, laidLooks := .later }
def CmdLinesUptoCardSaid : Prop := Claim7.holds Tryd.pinned (.plain (OpenSpec.upto cmdLinesSpec)) cmdLinesUptoCard

/-- THE SECOND FORM's CARD OF 'abacistlaw40.CmdParse'. -/
def cmdParseUptoCard : Claim7 := { stood := { row := cmdParseUptoRow, standIns := [], harness := (true, "40a311fae64a5566bd75c96b77f83a8b71a3cfa803c6afb4f5722c463187a793"), looks := false }, kinds := [], alts := [], laidByText := true, laidKinds := [.data, .pinned], laidTests := true, laidLooks := .later }
def CmdParseUptoCardSaid : Prop := Claim7.holds Tryd.pinned (.plain (OpenSpec.upto cmdParseSpec)) cmdParseUptoCard

/-- THE SECOND FORM's CARD OF 'abacistlaw40.CmdWords'. -/
def cmdWordsUptoCard : Claim7 := { stood := { row := cmdWordsUptoRow, standIns := [], harness := (true, "40a311fae64a5566bd75c96b77f83a8b71a3cfa803c6afb4f5722c463187a793"), looks := false }, kinds := [], alts := [], laidByText := true, laidKinds := [.data, .pinned], laidTests := true, laidLooks := .later }
def CmdWordsUptoCardSaid : Prop := Claim7.holds Tryd.pinned (.plain (OpenSpec.upto cmdWordsSpec)) cmdWordsUptoCard

/-- THE SECOND FORM's CARD OF 'abacistlaw03.DecTexts'. -/
def decTextsUptoCard : Claim7 := { stood := { row := decTextsUptoRow, standIns := [], harness := (true, "40a311fae64a5566bd75c96b77f83a8b71a3cfa803c6afb4f5722c463187a793"), looks := false }, kinds := [], alts := [], laidByText := true, laidKinds := [.data, .pinned], laidTests := true, laidLooks := .later }
def DecTextsUptoCardSaid : Prop := Claim7.holds Tryd.pinned (.plain (OpenSpec.upto decTextsSpec)) decTextsUptoCard

/-- THE SECOND FORM's CARD OF 'abacistlaw03.DecParse'. -/
def decParseUptoCard : Claim7 := { stood := { row := decParseUptoRow, standIns := [], harness := (true, "40a311fae64a5566bd75c96b77f83a8b71a3cfa803c6afb4f5722c463187a793"), looks := false }, kinds := [], alts := [], laidByText := true, laidKinds := [.data, .pinned], laidTests := true, laidLooks := .later }
def DecParseUptoCardSaid : Prop := Claim7.holds Tryd.pinned (.plain (OpenSpec.upto decParseSpec)) decParseUptoCard
end Rows
end Go.Proofs.YtcdcijhfjiahkaaDoorR
