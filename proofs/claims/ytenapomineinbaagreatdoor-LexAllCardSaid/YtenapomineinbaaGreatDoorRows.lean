/-
  NARROWER THAN 'FOR EVERY INPUT', by the rows' own cells (each row's printed sentence says how): NumtextTells: laid · NumtextParse: laid · ValueLiterals: laid · ValueMakes: laid · CoerceCmp: laid · CoerceNumbers: laid · CoerceOne: laid · LexAll: laid.
  DERIVED. THE GIVEN ROWS OF THIS SEAT. 8 by the template 'for every input the law returns true; each argument reads behind the call as it read before'; 0 by the template 'total and deterministic' (their statements: YtenapomineinbaaGreatDoorTotals.lean).
  GIVEN WITH THE SEED: the statements are not yours to turn. If you find one false, say at which input.
  Laid BY PROGRAM, IN A SANDBOX (cutbox-rows.mjs): the forced cells as the released guide's own fill.sh prints them over the translation 5cda926f675e6598… (all of the seat's roots in one cut). By AI agents, Wed Nov 11 2026. No macro, syntax, notation, axiom, sorry.
-/
import Derived.Test.YtenapomineinbaaGreatDoorChecked
import GoSem.PinnedTables
import GoSem.Claim
import GoSem.ClaimJoined
import GoSem.ClaimMapViews
import Derived.JoinedTies
import Derived.KernelRfl
namespace Go.Proofs.YtenapomineinbaaGreatDoor
/- THE CELL 'sum', in the pinned program and in every row, IS THE sha256 OF THE DUMP (.gsa) THAT YtenapomineinbaaGreatDoorProg.lean LOADS. Nothing in Lean hashes anything: it is a label: what it is worth is what the hold of that sum in a sandbox is worth. -/
noncomputable def Tryz.pinned : Pinned := { name := "ytenapomineinbaagreatdoor", sum := "5cda926f675e6598f5f9c57d3b085dee7da8487734245b9141765cd2acebdb08", checked := Tryz.checked }
namespace Rows
def none {H : Type} : Left H := { results := [], args := [] }

/- WHAT THE LISTED PACKAGE-LEVEL VARIABLES READ AS WHEN THE CALL BEGINS. Each datum BY PROGRAM (the guide's laid-datum.mjs) off the statement by which the dump's own 'gosem.cut.vars' lays the variable. In a bare row this is a premise. The card (YtenapomineinbaaGreatDoorCards.lean) ties it to the program's text. -/
def laid_unicode_utf8_acceptRanges {H : Type} : DataW H := .agg [.agg [.lit (.int .u8 128), .lit (.int .u8 191)], .agg [.lit (.int .u8 160), .lit (.int .u8 191)], .agg [.lit (.int .u8 128), .lit (.int .u8 159)], .agg [.lit (.int .u8 144), .lit (.int .u8 191)], .agg [.lit (.int .u8 128), .lit (.int .u8 143)], .agg [.lit (.int .u8 0), .lit (.int .u8 0)], .agg [.lit (.int .u8 0), .lit (.int .u8 0)], .agg [.lit (.int .u8 0), .lit (.int .u8 0)], .agg [.lit (.int .u8 0), .lit (.int .u8 0)], .agg [.lit (.int .u8 0), .lit (.int .u8 0)], .agg [.lit (.int .u8 0), .lit (.int .u8 0)], .agg [.lit (.int .u8 0), .lit (.int .u8 0)], .agg [.lit (.int .u8 0), .lit (.int .u8 0)], .agg [.lit (.int .u8 0), .lit (.int .u8 0)], .agg [.lit (.int .u8 0), .lit (.int .u8 0)], .agg [.lit (.int .u8 0), .lit (.int .u8 0)]]
/-- One of Go's own tables, pinned by name: the form's constant. -/
def laid_unicode_utf8_first : DataW Unit := Go.Pinned.utf8First

/-- 'abacistlaw07.NumtextTells': WHATEVER THE INPUT: true; the input reads as it did. -/
def numtextTellsSpec : ChangeSpec := { name := "numtextTells", fn := fun _ => fun
  | [d] => { results := [.lit (.bool true)], args := [d] }
  | _ => none }
def numtextTellsRow : OpenClaim := { program := "ytenapomineinbaagreatdoor", sum := "5cda926f675e6598f5f9c57d3b085dee7da8487734245b9141765cd2acebdb08", func := "abacist/abacistlaw07.NumtextTells", spec := "numtextTells", inPlace := ["internal/bytealg.IndexByteString", "internal/bytealg.IndexString", "internal/abi.NoEscape", "internal/bytealg.MakeNoZero"], unfollowed := true, recurses := true, named := ["unicode/utf8.first", "unicode/utf8.acceptRanges", "internal/bytealg.MaxLen"], apart := false, laid := [("unicode/utf8.acceptRanges", laid_unicode_utf8_acceptRanges), ("unicode/utf8.first", laid_unicode_utf8_first)] }
def NumtextTellsSaid : Prop := numtextTellsRow.holds Tryz.pinned (OpenSpec.ofChange numtextTellsSpec)

/-- ITS FALSE NEIGHBOUR: 'it returns false'. Refute it at one input. -/
def numtextTellsWrong : ChangeSpec := { name := "numtextTells", fn := fun _ => fun
  | [d] => { results := [.lit (.bool false)], args := [d] }
  | _ => none }
def NumtextTellsWrongFalsely : Prop := numtextTellsRow.holds Tryz.pinned (OpenSpec.ofChange numtextTellsWrong)

/-- 'abacistlaw07.NumtextParse': WHATEVER THE INPUT: true; the input reads as it did. -/
def numtextParseSpec : ChangeSpec := { name := "numtextParse", fn := fun _ => fun
  | [d] => { results := [.lit (.bool true)], args := [d] }
  | _ => none }
def numtextParseRow : OpenClaim := { program := "ytenapomineinbaagreatdoor", sum := "5cda926f675e6598f5f9c57d3b085dee7da8487734245b9141765cd2acebdb08", func := "abacist/abacistlaw07.NumtextParse", spec := "numtextParse", inPlace := ["internal/bytealg.IndexByteString", "internal/bytealg.IndexString", "internal/abi.NoEscape", "internal/bytealg.MakeNoZero"], unfollowed := true, recurses := true, named := ["internal/bytealg.MaxLen", "unicode/utf8.first", "unicode/utf8.acceptRanges"], apart := false, laid := [("unicode/utf8.acceptRanges", laid_unicode_utf8_acceptRanges), ("unicode/utf8.first", laid_unicode_utf8_first)] }
def NumtextParseSaid : Prop := numtextParseRow.holds Tryz.pinned (OpenSpec.ofChange numtextParseSpec)

/-- ITS FALSE NEIGHBOUR: 'it returns false'. Refute it at one input. -/
def numtextParseWrong : ChangeSpec := { name := "numtextParse", fn := fun _ => fun
  | [d] => { results := [.lit (.bool false)], args := [d] }
  | _ => none }
def NumtextParseWrongFalsely : Prop := numtextParseRow.holds Tryz.pinned (OpenSpec.ofChange numtextParseWrong)

/-- 'abacistlaw08.ValueLiterals': WHATEVER THE INPUT: true; the input reads as it did. -/
def valueLiteralsSpec : ChangeSpec := { name := "valueLiterals", fn := fun _ => fun
  | [d1, d2] => { results := [.lit (.bool true)], args := [d1, d2] }
  | _ => none }
def valueLiteralsRow : OpenClaim := { program := "ytenapomineinbaagreatdoor", sum := "5cda926f675e6598f5f9c57d3b085dee7da8487734245b9141765cd2acebdb08", func := "abacist/abacistlaw08.ValueLiterals", spec := "valueLiterals", inPlace := ["internal/bytealg.IndexByteString", "internal/bytealg.IndexString", "internal/abi.NoEscape", "internal/bytealg.MakeNoZero"], unfollowed := true, recurses := true, named := ["internal/bytealg.MaxLen", "unicode/utf8.first", "unicode/utf8.acceptRanges"], apart := false, laid := [("unicode/utf8.acceptRanges", laid_unicode_utf8_acceptRanges), ("unicode/utf8.first", laid_unicode_utf8_first)] }
def ValueLiteralsSaid : Prop := valueLiteralsRow.holds Tryz.pinned (OpenSpec.ofChange valueLiteralsSpec)

/-- ITS FALSE NEIGHBOUR: 'it returns false'. Refute it at one input. -/
def valueLiteralsWrong : ChangeSpec := { name := "valueLiterals", fn := fun _ => fun
  | [d1, d2] => { results := [.lit (.bool false)], args := [d1, d2] }
  | _ => none }
def ValueLiteralsWrongFalsely : Prop := valueLiteralsRow.holds Tryz.pinned (OpenSpec.ofChange valueLiteralsWrong)

/-- 'abacistlaw08.ValueMakes': WHATEVER THE INPUT: true; the input reads as it did. -/
def valueMakesSpec : ChangeSpec := { name := "valueMakes", fn := fun _ => fun
  | [d1, d2, d3, d4] => { results := [.lit (.bool true)], args := [d1, d2, d3, d4] }
  | _ => none }
def valueMakesRow : OpenClaim := { program := "ytenapomineinbaagreatdoor", sum := "5cda926f675e6598f5f9c57d3b085dee7da8487734245b9141765cd2acebdb08", func := "abacist/abacistlaw08.ValueMakes", spec := "valueMakes", inPlace := ["internal/bytealg.IndexByteString", "internal/bytealg.IndexString", "internal/abi.NoEscape", "internal/bytealg.MakeNoZero"], unfollowed := true, recurses := true, named := ["internal/bytealg.MaxLen", "unicode/utf8.first", "unicode/utf8.acceptRanges"], apart := false, laid := [("unicode/utf8.acceptRanges", laid_unicode_utf8_acceptRanges), ("unicode/utf8.first", laid_unicode_utf8_first)] }
def ValueMakesSaid : Prop := valueMakesRow.holds Tryz.pinned (OpenSpec.ofChange valueMakesSpec)

/-- ITS FALSE NEIGHBOUR: 'it returns false'. Refute it at one input. -/
def valueMakesWrong : ChangeSpec := { name := "valueMakes", fn := fun _ => fun
  | [d1, d2, d3, d4] => { results := [.lit (.bool false)], args := [d1, d2, d3, d4] }
  | _ => none }
def ValueMakesWrongFalsely : Prop := valueMakesRow.holds Tryz.pinned (OpenSpec.ofChange valueMakesWrong)

/-- 'abacistlaw09.CoerceCmp': WHATEVER THE INPUT: true; the input reads as it did. -/
def coerceCmpSpec : ChangeSpec := { name := "coerceCmp", fn := fun _ => fun
  | [d1, d2, d3] => { results := [.lit (.bool true)], args := [d1, d2, d3] }
  | _ => none }
def coerceCmpRow : OpenClaim := { program := "ytenapomineinbaagreatdoor", sum := "5cda926f675e6598f5f9c57d3b085dee7da8487734245b9141765cd2acebdb08", func := "abacist/abacistlaw09.CoerceCmp", spec := "coerceCmp", inPlace := ["internal/bytealg.IndexByteString", "internal/bytealg.IndexString"], unfollowed := true, recurses := true, named := ["unicode/utf8.first", "unicode/utf8.acceptRanges", "internal/bytealg.MaxLen"], apart := false, laid := [("unicode/utf8.acceptRanges", laid_unicode_utf8_acceptRanges), ("unicode/utf8.first", laid_unicode_utf8_first)] }
def CoerceCmpSaid : Prop := coerceCmpRow.holds Tryz.pinned (OpenSpec.ofChange coerceCmpSpec)

/-- ITS FALSE NEIGHBOUR: 'it returns false'. Refute it at one input. -/
def coerceCmpWrong : ChangeSpec := { name := "coerceCmp", fn := fun _ => fun
  | [d1, d2, d3] => { results := [.lit (.bool false)], args := [d1, d2, d3] }
  | _ => none }
def CoerceCmpWrongFalsely : Prop := coerceCmpRow.holds Tryz.pinned (OpenSpec.ofChange coerceCmpWrong)

/-- 'abacistlaw09.CoerceNumbers': WHATEVER THE INPUT: true; the input reads as it did. -/
def coerceNumbersSpec : ChangeSpec := { name := "coerceNumbers", fn := fun _ => fun
  | [d1, d2] => { results := [.lit (.bool true)], args := [d1, d2] }
  | _ => none }
def coerceNumbersRow : OpenClaim := { program := "ytenapomineinbaagreatdoor", sum := "5cda926f675e6598f5f9c57d3b085dee7da8487734245b9141765cd2acebdb08", func := "abacist/abacistlaw09.CoerceNumbers", spec := "coerceNumbers", inPlace := ["internal/bytealg.IndexByteString", "internal/bytealg.IndexString"], unfollowed := true, recurses := true, named := ["unicode/utf8.first", "unicode/utf8.acceptRanges", "internal/bytealg.MaxLen"], apart := false, laid := [("unicode/utf8.acceptRanges", laid_unicode_utf8_acceptRanges), ("unicode/utf8.first", laid_unicode_utf8_first)] }
def CoerceNumbersSaid : Prop := coerceNumbersRow.holds Tryz.pinned (OpenSpec.ofChange coerceNumbersSpec)

/-- ITS FALSE NEIGHBOUR: 'it returns false'. Refute it at one input. -/
def coerceNumbersWrong : ChangeSpec := { name := "coerceNumbers", fn := fun _ => fun
  | [d1, d2] => { results := [.lit (.bool false)], args := [d1, d2] }
  | _ => none }
def CoerceNumbersWrongFalsely : Prop := coerceNumbersRow.holds Tryz.pinned (OpenSpec.ofChange coerceNumbersWrong)

/-- 'abacistlaw09.CoerceOne': WHATEVER THE INPUT: true; the input reads as it did. -/
def coerceOneSpec : ChangeSpec := { name := "coerceOne", fn := fun _ => fun
  | [d] => { results := [.lit (.bool true)], args := [d] }
  | _ => none }
def coerceOneRow : OpenClaim := { program := "ytenapomineinbaagreatdoor", sum := "5cda926f675e6598f5f9c57d3b085dee7da8487734245b9141765cd2acebdb08", func := "abacist/abacistlaw09.CoerceOne", spec := "coerceOne", inPlace := ["internal/bytealg.IndexByteString", "internal/bytealg.IndexString", "internal/abi.NoEscape", "internal/bytealg.MakeNoZero"], unfollowed := true, recurses := true, named := ["unicode/utf8.first", "unicode/utf8.acceptRanges", "internal/bytealg.MaxLen"], apart := false, laid := [("unicode/utf8.acceptRanges", laid_unicode_utf8_acceptRanges), ("unicode/utf8.first", laid_unicode_utf8_first)] }
def CoerceOneSaid : Prop := coerceOneRow.holds Tryz.pinned (OpenSpec.ofChange coerceOneSpec)

/-- ITS FALSE NEIGHBOUR: 'it returns false'. Refute it at one input. -/
def coerceOneWrong : ChangeSpec := { name := "coerceOne", fn := fun _ => fun
  | [d] => { results := [.lit (.bool false)], args := [d] }
  | _ => none }
def CoerceOneWrongFalsely : Prop := coerceOneRow.holds Tryz.pinned (OpenSpec.ofChange coerceOneWrong)

/-- 'abacistlaw12.LexAll': WHATEVER THE INPUT: true; the input reads as it did. -/
def lexAllSpec : ChangeSpec := { name := "lexAll", fn := fun _ => fun
  | [d1, d2] => { results := [.lit (.bool true)], args := [d1, d2] }
  | _ => none }
def lexAllRow : OpenClaim := { program := "ytenapomineinbaagreatdoor", sum := "5cda926f675e6598f5f9c57d3b085dee7da8487734245b9141765cd2acebdb08", func := "abacist/abacistlaw12.LexAll", spec := "lexAll", inPlace := ["internal/bytealg.IndexByteString", "internal/bytealg.IndexString", "internal/abi.NoEscape"], unfollowed := true, recurses := true, named := ["internal/bytealg.MaxLen", "unicode/utf8.first", "unicode/utf8.acceptRanges"], apart := false, laid := [("unicode/utf8.acceptRanges", laid_unicode_utf8_acceptRanges), ("unicode/utf8.first", laid_unicode_utf8_first)] }
def LexAllSaid : Prop := lexAllRow.holds Tryz.pinned (OpenSpec.ofChange lexAllSpec)

/-- ITS FALSE NEIGHBOUR: 'it returns false'. Refute it at one input. -/
def lexAllWrong : ChangeSpec := { name := "lexAll", fn := fun _ => fun
  | [d1, d2] => { results := [.lit (.bool false)], args := [d1, d2] }
  | _ => none }
def LexAllWrongFalsely : Prop := lexAllRow.holds Tryz.pinned (OpenSpec.ofChange lexAllWrong)

/- THE SECOND FORM. 'bulk': how many values and letters a reading holds, each counted each time it is reached (what is shared counts as often as it is met; a slice's spare places count too). A statement '..UptoSaid' is the law's where the arguments, and the package variables that the reading takes, are together of bulk at most 1048576: NARROWER than '..Said'. Prove '..Said' where nothing that the law and all that it calls make is longer than what came in: it says more and counts as full. Else prove '..UptoSaid'. A law counts once. -/
mutual
def uptoBulk {H : Type} : DataW H → Nat
  | .lit (.string bytes) => bytes.length + 1
  | .lit _ => 1
  | .nil => 1
  | .ptr d => uptoBulk d + 1
  | .slice elems spare => uptoBulkAll elems + uptoBulkAll spare + 1
  | .agg parts => uptoBulkAll parts + 1
  | .iface _ d => uptoBulk d + 1
  | .map entries => uptoBulkEntries entries + 1
  | .held _ => 1
def uptoBulkAll {H : Type} : List (DataW H) → Nat
  | [] => 0
  | d :: r => uptoBulk d + uptoBulkAll r
def uptoBulkEntries {H : Type} : List (Lit × DataW H) → Nat
  | [] => 0
  | x :: r => uptoBulkEntry x + uptoBulkEntries r
def uptoBulkEntry {H : Type} : Lit × DataW H → Nat
  | (.string bytes, d) => bytes.length + uptoBulk d + 1
  | (_, d) => uptoBulk d + 1
 end
def uptoSmall : (H : Type) → List (DataW H) → Bool := fun _ ds => decide (uptoBulkAll ds ≤ 1048576)
def OpenSpec.upto (s : _root_.Go.ChangeSpec) : _root_.Go.OpenSpec := { _root_.Go.OpenSpec.ofChange s with cond := some uptoSmall }

/-- 'abacistlaw07.NumtextTells', WHERE WHAT IT READS IS OF BULK AT MOST 1048576: true; the input reads as it did. -/
def numtextTellsUptoRow : OpenClaim := { program := "ytenapomineinbaagreatdoor", sum := "5cda926f675e6598f5f9c57d3b085dee7da8487734245b9141765cd2acebdb08", func := "abacist/abacistlaw07.NumtextTells", spec := "numtextTells", inPlace := ["internal/bytealg.IndexByteString", "internal/bytealg.IndexString", "internal/abi.NoEscape", "internal/bytealg.MakeNoZero"], unfollowed := true, recurses := true, named := ["unicode/utf8.first", "unicode/utf8.acceptRanges", "internal/bytealg.MaxLen"], apart := false, laid := [("unicode/utf8.acceptRanges", laid_unicode_utf8_acceptRanges), ("unicode/utf8.first", laid_unicode_utf8_first)], narrowed := true }
def NumtextTellsUptoSaid : Prop := numtextTellsUptoRow.holds Tryz.pinned (OpenSpec.upto numtextTellsSpec)

/-- 'abacistlaw07.NumtextParse', WHERE WHAT IT READS IS OF BULK AT MOST 1048576: true; the input reads as it did. -/
def numtextParseUptoRow : OpenClaim := { program := "ytenapomineinbaagreatdoor", sum := "5cda926f675e6598f5f9c57d3b085dee7da8487734245b9141765cd2acebdb08", func := "abacist/abacistlaw07.NumtextParse", spec := "numtextParse", inPlace := ["internal/bytealg.IndexByteString", "internal/bytealg.IndexString", "internal/abi.NoEscape", "internal/bytealg.MakeNoZero"], unfollowed := true, recurses := true, named := ["internal/bytealg.MaxLen", "unicode/utf8.first", "unicode/utf8.acceptRanges"], apart := false, laid := [("unicode/utf8.acceptRanges", laid_unicode_utf8_acceptRanges), ("unicode/utf8.first", laid_unicode_utf8_first)], narrowed := true }
def NumtextParseUptoSaid : Prop := numtextParseUptoRow.holds Tryz.pinned (OpenSpec.upto numtextParseSpec)

/-- 'abacistlaw08.ValueLiterals', WHERE WHAT IT READS IS OF BULK AT MOST 1048576: true; the input reads as it did. -/
def valueLiteralsUptoRow : OpenClaim := { program := "ytenapomineinbaagreatdoor", sum := "5cda926f675e6598f5f9c57d3b085dee7da8487734245b9141765cd2acebdb08", func := "abacist/abacistlaw08.ValueLiterals", spec := "valueLiterals", inPlace := ["internal/bytealg.IndexByteString", "internal/bytealg.IndexString", "internal/abi.NoEscape", "internal/bytealg.MakeNoZero"], unfollowed := true, recurses := true, named := ["internal/bytealg.MaxLen", "unicode/utf8.first", "unicode/utf8.acceptRanges"], apart := false, laid := [("unicode/utf8.acceptRanges", laid_unicode_utf8_acceptRanges), ("unicode/utf8.first", laid_unicode_utf8_first)], narrowed := true }
def ValueLiteralsUptoSaid : Prop := valueLiteralsUptoRow.holds Tryz.pinned (OpenSpec.upto valueLiteralsSpec)

/-- 'abacistlaw08.ValueMakes', WHERE WHAT IT READS IS OF BULK AT MOST 1048576: true; the input reads as it did. -/
def valueMakesUptoRow : OpenClaim := { program := "ytenapomineinbaagreatdoor", sum := "5cda926f675e6598f5f9c57d3b085dee7da8487734245b9141765cd2acebdb08", func := "abacist/abacistlaw08.ValueMakes", spec := "valueMakes", inPlace := ["internal/bytealg.IndexByteString", "internal/bytealg.IndexString", "internal/abi.NoEscape", "internal/bytealg.MakeNoZero"], unfollowed := true, recurses := true, named := ["internal/bytealg.MaxLen", "unicode/utf8.first", "unicode/utf8.acceptRanges"], apart := false, laid := [("unicode/utf8.acceptRanges", laid_unicode_utf8_acceptRanges), ("unicode/utf8.first", laid_unicode_utf8_first)], narrowed := true }
def ValueMakesUptoSaid : Prop := valueMakesUptoRow.holds Tryz.pinned (OpenSpec.upto valueMakesSpec)

/-- 'abacistlaw09.CoerceCmp', WHERE WHAT IT READS IS OF BULK AT MOST 1048576: true; the input reads as it did. -/
def coerceCmpUptoRow : OpenClaim := { program := "ytenapomineinbaagreatdoor", sum := "5cda926f675e6598f5f9c57d3b085dee7da8487734245b9141765cd2acebdb08", func := "abacist/abacistlaw09.CoerceCmp", spec := "coerceCmp", inPlace := ["internal/bytealg.IndexByteString", "internal/bytealg.IndexString"], unfollowed := true, recurses := true, named := ["unicode/utf8.first", "unicode/utf8.acceptRanges", "internal/bytealg.MaxLen"], apart := false, laid := [("unicode/utf8.acceptRanges", laid_unicode_utf8_acceptRanges), ("unicode/utf8.first", laid_unicode_utf8_first)], narrowed := true }
def CoerceCmpUptoSaid : Prop := coerceCmpUptoRow.holds Tryz.pinned (OpenSpec.upto coerceCmpSpec)

/-- 'abacistlaw09.CoerceNumbers', WHERE WHAT IT READS IS OF BULK AT MOST 1048576: true; the input reads as it did. -/
def coerceNumbersUptoRow : OpenClaim := { program := "ytenapomineinbaagreatdoor", sum := "5cda926f675e6598f5f9c57d3b085dee7da8487734245b9141765cd2acebdb08", func := "abacist/abacistlaw09.CoerceNumbers", spec := "coerceNumbers", inPlace := ["internal/bytealg.IndexByteString", "internal/bytealg.IndexString"], unfollowed := true, recurses := true, named := ["unicode/utf8.first", "unicode/utf8.acceptRanges", "internal/bytealg.MaxLen"], apart := false, laid := [("unicode/utf8.acceptRanges", laid_unicode_utf8_acceptRanges), ("unicode/utf8.first", laid_unicode_utf8_first)], narrowed := true }
def CoerceNumbersUptoSaid : Prop := coerceNumbersUptoRow.holds Tryz.pinned (OpenSpec.upto coerceNumbersSpec)

/-- 'abacistlaw09.CoerceOne', WHERE WHAT IT READS IS OF BULK AT MOST 1048576: true; the input reads as it did. -/
def coerceOneUptoRow : OpenClaim := { program := "ytenapomineinbaagreatdoor", sum := "5cda926f675e6598f5f9c57d3b085dee7da8487734245b9141765cd2acebdb08", func := "abacist/abacistlaw09.CoerceOne", spec := "coerceOne", inPlace := ["internal/bytealg.IndexByteString", "internal/bytealg.IndexString", "internal/abi.NoEscape", "internal/bytealg.MakeNoZero"], unfollowed := true, recurses := true, named := ["unicode/utf8.first", "unicode/utf8.acceptRanges", "internal/bytealg.MaxLen"], apart := false, laid := [("unicode/utf8.acceptRanges", laid_unicode_utf8_acceptRanges), ("unicode/utf8.first", laid_unicode_utf8_first)], narrowed := true }
def CoerceOneUptoSaid : Prop := coerceOneUptoRow.holds Tryz.pinned (OpenSpec.upto coerceOneSpec)

/-- 'abacistlaw12.LexAll', WHERE WHAT IT READS IS OF BULK AT MOST 1048576: true; the input reads as it did. -/
def lexAllUptoRow : OpenClaim := { program := "ytenapomineinbaagreatdoor", sum := "5cda926f675e6598f5f9c57d3b085dee7da8487734245b9141765cd2acebdb08", func := "abacist/abacistlaw12.LexAll", spec := "lexAll", inPlace := ["internal/bytealg.IndexByteString", "internal/bytealg.IndexString", "internal/abi.NoEscape"], unfollowed := true, recurses := true, named := ["internal/bytealg.MaxLen", "unicode/utf8.first", "unicode/utf8.acceptRanges"], apart := false, laid := [("unicode/utf8.acceptRanges", laid_unicode_utf8_acceptRanges), ("unicode/utf8.first", laid_unicode_utf8_first)], narrowed := true }
def LexAllUptoSaid : Prop := lexAllUptoRow.holds Tryz.pinned (OpenSpec.upto lexAllSpec)

end Rows
end Go.Proofs.YtenapomineinbaaGreatDoor
