/-
  NARROWER THAN 'FOR EVERY INPUT', by the rows' own cells (each row's printed sentence says how): AstTells: laid · AstMakes: laid · AstParts: laid · RewriteChanges: laid · RewriteBack: laid · RewriteNames: laid · RewriteMoves: laid · FlogDoes: laid · FlogNames: laid · FlogRules: laid · FlookNames: laid · FlookFinds: laid.
  DERIVED. THE GIVEN ROWS OF THIS SEAT. 12 by the template 'for every input the law returns true; each argument reads behind the call as it read before'; 0 by the template 'total and deterministic' (their statements: YthhpnecamilieaaGreatDoorTotals.lean).
  GIVEN WITH THE SEED: the statements are not yours to turn. If you find one false, say at which input.
  Laid BY PROGRAM, IN A SANDBOX (cutbox-rows.mjs): the forced cells as the released guide's own fill.sh prints them over the translation a0e048fe5208e9ec… (all of the seat's roots in one cut). By AI agents, Wed Nov 11 2026. No macro, syntax, notation, axiom, sorry.
-/
import Derived.Test.YthhpnecamilieaaGreatDoorChecked
import GoSem.PinnedTables
import GoSem.Claim
import GoSem.ClaimJoined
import GoSem.ClaimMapViews
import Derived.JoinedTies
import Derived.KernelRfl
namespace Go.Proofs.YthhpnecamilieaaGreatDoor
/- THE CELL 'sum', in the pinned program and in every row, IS THE sha256 OF THE DUMP (.gsa) THAT YthhpnecamilieaaGreatDoorProg.lean LOADS. Nothing in Lean hashes anything: it is a label: what it is worth is what the hold of that sum in a sandbox is worth. -/
noncomputable def Tryz.pinned : Pinned := { name := "ythhpnecamilieaagreatdoor", sum := "a0e048fe5208e9ec99b4ea1802102a95082d971c33fb1e6b359e54e7236e6651", checked := Tryz.checked }
namespace Rows
def none {H : Type} : Left H := { results := [], args := [] }

/- WHAT THE LISTED PACKAGE-LEVEL VARIABLES READ AS WHEN THE CALL BEGINS. Each datum BY PROGRAM (the guide's laid-datum.mjs) off the statement by which the dump's own 'gosem.cut.vars' lays the variable. In a bare row this is a premise. The card (YthhpnecamilieaaGreatDoorCards.lean) ties it to the program's text. -/
def laid_unicode_utf8_acceptRanges {H : Type} : DataW H := .agg [.agg [.lit (.int .u8 128), .lit (.int .u8 191)], .agg [.lit (.int .u8 160), .lit (.int .u8 191)], .agg [.lit (.int .u8 128), .lit (.int .u8 159)], .agg [.lit (.int .u8 144), .lit (.int .u8 191)], .agg [.lit (.int .u8 128), .lit (.int .u8 143)], .agg [.lit (.int .u8 0), .lit (.int .u8 0)], .agg [.lit (.int .u8 0), .lit (.int .u8 0)], .agg [.lit (.int .u8 0), .lit (.int .u8 0)], .agg [.lit (.int .u8 0), .lit (.int .u8 0)], .agg [.lit (.int .u8 0), .lit (.int .u8 0)], .agg [.lit (.int .u8 0), .lit (.int .u8 0)], .agg [.lit (.int .u8 0), .lit (.int .u8 0)], .agg [.lit (.int .u8 0), .lit (.int .u8 0)], .agg [.lit (.int .u8 0), .lit (.int .u8 0)], .agg [.lit (.int .u8 0), .lit (.int .u8 0)], .agg [.lit (.int .u8 0), .lit (.int .u8 0)]]
/-- One of Go's own tables, pinned by name: the form's constant. -/
def laid_unicode_utf8_first : DataW Unit := Go.Pinned.utf8First

/-- 'abacistlaw13.AstTells': WHATEVER THE INPUT: true; the input reads as it did. -/
def astTellsSpec : ChangeSpec := { name := "astTells", fn := fun _ => fun
  | [d1, d2, d3] => { results := [.lit (.bool true)], args := [d1, d2, d3] }
  | _ => none }
def astTellsRow : OpenClaim := { program := "ythhpnecamilieaagreatdoor", sum := "a0e048fe5208e9ec99b4ea1802102a95082d971c33fb1e6b359e54e7236e6651", func := "abacist/abacistlaw13.AstTells", spec := "astTells", inPlace := ["internal/bytealg.IndexByteString", "internal/bytealg.IndexString"], unfollowed := true, recurses := true, named := ["unicode/utf8.first", "unicode/utf8.acceptRanges", "internal/bytealg.MaxLen"], apart := false, laid := [("unicode/utf8.acceptRanges", laid_unicode_utf8_acceptRanges), ("unicode/utf8.first", laid_unicode_utf8_first)] }
def AstTellsSaid : Prop := astTellsRow.holds Tryz.pinned (OpenSpec.ofChange astTellsSpec)

/-- ITS FALSE NEIGHBOUR: 'it returns false'. Refute it at one input. -/
def astTellsWrong : ChangeSpec := { name := "astTells", fn := fun _ => fun
  | [d1, d2, d3] => { results := [.lit (.bool false)], args := [d1, d2, d3] }
  | _ => none }
def AstTellsWrongFalsely : Prop := astTellsRow.holds Tryz.pinned (OpenSpec.ofChange astTellsWrong)

/-- 'abacistlaw13.AstMakes': WHATEVER THE INPUT: true; the input reads as it did. -/
def astMakesSpec : ChangeSpec := { name := "astMakes", fn := fun _ => fun
  | [d] => { results := [.lit (.bool true)], args := [d] }
  | _ => none }
def astMakesRow : OpenClaim := { program := "ythhpnecamilieaagreatdoor", sum := "a0e048fe5208e9ec99b4ea1802102a95082d971c33fb1e6b359e54e7236e6651", func := "abacist/abacistlaw13.AstMakes", spec := "astMakes", inPlace := ["internal/bytealg.IndexByteString", "internal/bytealg.IndexString"], unfollowed := true, recurses := true, named := ["unicode/utf8.first", "unicode/utf8.acceptRanges", "internal/bytealg.MaxLen"], apart := false, laid := [("unicode/utf8.acceptRanges", laid_unicode_utf8_acceptRanges), ("unicode/utf8.first", laid_unicode_utf8_first)] }
def AstMakesSaid : Prop := astMakesRow.holds Tryz.pinned (OpenSpec.ofChange astMakesSpec)

/-- ITS FALSE NEIGHBOUR: 'it returns false'. Refute it at one input. -/
def astMakesWrong : ChangeSpec := { name := "astMakes", fn := fun _ => fun
  | [d] => { results := [.lit (.bool false)], args := [d] }
  | _ => none }
def AstMakesWrongFalsely : Prop := astMakesRow.holds Tryz.pinned (OpenSpec.ofChange astMakesWrong)

/-- 'abacistlaw13.AstParts': WHATEVER THE INPUT: true; the input reads as it did. -/
def astPartsSpec : ChangeSpec := { name := "astParts", fn := fun _ => fun
  | [d1, d2, d3, d4] => { results := [.lit (.bool true)], args := [d1, d2, d3, d4] }
  | _ => none }
def astPartsRow : OpenClaim := { program := "ythhpnecamilieaagreatdoor", sum := "a0e048fe5208e9ec99b4ea1802102a95082d971c33fb1e6b359e54e7236e6651", func := "abacist/abacistlaw13.AstParts", spec := "astParts", inPlace := ["internal/bytealg.IndexByteString", "internal/bytealg.IndexString"], unfollowed := true, recurses := true, named := ["unicode/utf8.first", "unicode/utf8.acceptRanges", "internal/bytealg.MaxLen"], apart := false, laid := [("unicode/utf8.acceptRanges", laid_unicode_utf8_acceptRanges), ("unicode/utf8.first", laid_unicode_utf8_first)] }
def AstPartsSaid : Prop := astPartsRow.holds Tryz.pinned (OpenSpec.ofChange astPartsSpec)

/-- ITS FALSE NEIGHBOUR: 'it returns false'. Refute it at one input. -/
def astPartsWrong : ChangeSpec := { name := "astParts", fn := fun _ => fun
  | [d1, d2, d3, d4] => { results := [.lit (.bool false)], args := [d1, d2, d3, d4] }
  | _ => none }
def AstPartsWrongFalsely : Prop := astPartsRow.holds Tryz.pinned (OpenSpec.ofChange astPartsWrong)

/-- 'abacistlaw16.RewriteChanges': WHATEVER THE INPUT: true; the input reads as it did. -/
def rewriteChangesSpec : ChangeSpec := { name := "rewriteChanges", fn := fun _ => fun
  | [d1, d2] => { results := [.lit (.bool true)], args := [d1, d2] }
  | _ => none }
def rewriteChangesRow : OpenClaim := { program := "ythhpnecamilieaagreatdoor", sum := "a0e048fe5208e9ec99b4ea1802102a95082d971c33fb1e6b359e54e7236e6651", func := "abacist/abacistlaw16.RewriteChanges", spec := "rewriteChanges", inPlace := ["internal/bytealg.IndexByteString", "internal/bytealg.IndexString"], unfollowed := true, recurses := true, named := ["unicode/utf8.first", "unicode/utf8.acceptRanges", "internal/bytealg.MaxLen"], apart := false, laid := [("unicode/utf8.acceptRanges", laid_unicode_utf8_acceptRanges), ("unicode/utf8.first", laid_unicode_utf8_first)] }
def RewriteChangesSaid : Prop := rewriteChangesRow.holds Tryz.pinned (OpenSpec.ofChange rewriteChangesSpec)

/-- ITS FALSE NEIGHBOUR: 'it returns false'. Refute it at one input. -/
def rewriteChangesWrong : ChangeSpec := { name := "rewriteChanges", fn := fun _ => fun
  | [d1, d2] => { results := [.lit (.bool false)], args := [d1, d2] }
  | _ => none }
def RewriteChangesWrongFalsely : Prop := rewriteChangesRow.holds Tryz.pinned (OpenSpec.ofChange rewriteChangesWrong)

/-- 'abacistlaw16.RewriteBack': WHATEVER THE INPUT: true; the input reads as it did. -/
def rewriteBackSpec : ChangeSpec := { name := "rewriteBack", fn := fun _ => fun
  | [d1, d2] => { results := [.lit (.bool true)], args := [d1, d2] }
  | _ => none }
def rewriteBackRow : OpenClaim := { program := "ythhpnecamilieaagreatdoor", sum := "a0e048fe5208e9ec99b4ea1802102a95082d971c33fb1e6b359e54e7236e6651", func := "abacist/abacistlaw16.RewriteBack", spec := "rewriteBack", inPlace := ["internal/bytealg.IndexByteString", "internal/bytealg.IndexString"], unfollowed := true, recurses := true, named := ["unicode/utf8.first", "unicode/utf8.acceptRanges", "internal/bytealg.MaxLen"], apart := false, laid := [("unicode/utf8.acceptRanges", laid_unicode_utf8_acceptRanges), ("unicode/utf8.first", laid_unicode_utf8_first)] }
def RewriteBackSaid : Prop := rewriteBackRow.holds Tryz.pinned (OpenSpec.ofChange rewriteBackSpec)

/-- ITS FALSE NEIGHBOUR: 'it returns false'. Refute it at one input. -/
def rewriteBackWrong : ChangeSpec := { name := "rewriteBack", fn := fun _ => fun
  | [d1, d2] => { results := [.lit (.bool false)], args := [d1, d2] }
  | _ => none }
def RewriteBackWrongFalsely : Prop := rewriteBackRow.holds Tryz.pinned (OpenSpec.ofChange rewriteBackWrong)

/-- 'abacistlaw16.RewriteNames': WHATEVER THE INPUT: true; the input reads as it did. -/
def rewriteNamesSpec : ChangeSpec := { name := "rewriteNames", fn := fun _ => fun
  | [d1, d2, d3] => { results := [.lit (.bool true)], args := [d1, d2, d3] }
  | _ => none }
def rewriteNamesRow : OpenClaim := { program := "ythhpnecamilieaagreatdoor", sum := "a0e048fe5208e9ec99b4ea1802102a95082d971c33fb1e6b359e54e7236e6651", func := "abacist/abacistlaw16.RewriteNames", spec := "rewriteNames", inPlace := ["internal/bytealg.IndexByteString", "internal/bytealg.IndexString"], unfollowed := true, recurses := true, named := ["unicode/utf8.first", "unicode/utf8.acceptRanges", "internal/bytealg.MaxLen"], apart := false, laid := [("unicode/utf8.acceptRanges", laid_unicode_utf8_acceptRanges), ("unicode/utf8.first", laid_unicode_utf8_first)] }
def RewriteNamesSaid : Prop := rewriteNamesRow.holds Tryz.pinned (OpenSpec.ofChange rewriteNamesSpec)

/-- ITS FALSE NEIGHBOUR: 'it returns false'. Refute it at one input. -/
def rewriteNamesWrong : ChangeSpec := { name := "rewriteNames", fn := fun _ => fun
  | [d1, d2, d3] => { results := [.lit (.bool false)], args := [d1, d2, d3] }
  | _ => none }
def RewriteNamesWrongFalsely : Prop := rewriteNamesRow.holds Tryz.pinned (OpenSpec.ofChange rewriteNamesWrong)

/-- 'abacistlaw16.RewriteMoves': WHATEVER THE INPUT: true; the input reads as it did. -/
def rewriteMovesSpec : ChangeSpec := { name := "rewriteMoves", fn := fun _ => fun
  | [d1, d2, d3] => { results := [.lit (.bool true)], args := [d1, d2, d3] }
  | _ => none }
def rewriteMovesRow : OpenClaim := { program := "ythhpnecamilieaagreatdoor", sum := "a0e048fe5208e9ec99b4ea1802102a95082d971c33fb1e6b359e54e7236e6651", func := "abacist/abacistlaw16.RewriteMoves", spec := "rewriteMoves", inPlace := ["internal/bytealg.IndexByteString", "internal/bytealg.IndexString"], unfollowed := true, recurses := true, named := ["unicode/utf8.first", "unicode/utf8.acceptRanges", "internal/bytealg.MaxLen"], apart := false, laid := [("unicode/utf8.acceptRanges", laid_unicode_utf8_acceptRanges), ("unicode/utf8.first", laid_unicode_utf8_first)] }
def RewriteMovesSaid : Prop := rewriteMovesRow.holds Tryz.pinned (OpenSpec.ofChange rewriteMovesSpec)

/-- ITS FALSE NEIGHBOUR: 'it returns false'. Refute it at one input. -/
def rewriteMovesWrong : ChangeSpec := { name := "rewriteMoves", fn := fun _ => fun
  | [d1, d2, d3] => { results := [.lit (.bool false)], args := [d1, d2, d3] }
  | _ => none }
def RewriteMovesWrongFalsely : Prop := rewriteMovesRow.holds Tryz.pinned (OpenSpec.ofChange rewriteMovesWrong)

/-- 'abacistlaw20.FlogDoes': WHATEVER THE INPUT: true; the input reads as it did. -/
def flogDoesSpec : ChangeSpec := { name := "flogDoes", fn := fun _ => fun
  | [d1, d2] => { results := [.lit (.bool true)], args := [d1, d2] }
  | _ => none }
def flogDoesRow : OpenClaim := { program := "ythhpnecamilieaagreatdoor", sum := "a0e048fe5208e9ec99b4ea1802102a95082d971c33fb1e6b359e54e7236e6651", func := "abacist/abacistlaw20.FlogDoes", spec := "flogDoes", inPlace := ["internal/bytealg.IndexByteString", "internal/bytealg.IndexString"], unfollowed := true, recurses := true, named := ["unicode/utf8.first", "unicode/utf8.acceptRanges", "internal/bytealg.MaxLen"], apart := false, laid := [("unicode/utf8.acceptRanges", laid_unicode_utf8_acceptRanges), ("unicode/utf8.first", laid_unicode_utf8_first)] }
def FlogDoesSaid : Prop := flogDoesRow.holds Tryz.pinned (OpenSpec.ofChange flogDoesSpec)

/-- ITS FALSE NEIGHBOUR: 'it returns false'. Refute it at one input. -/
def flogDoesWrong : ChangeSpec := { name := "flogDoes", fn := fun _ => fun
  | [d1, d2] => { results := [.lit (.bool false)], args := [d1, d2] }
  | _ => none }
def FlogDoesWrongFalsely : Prop := flogDoesRow.holds Tryz.pinned (OpenSpec.ofChange flogDoesWrong)

/-- 'abacistlaw20.FlogNames': WHATEVER THE INPUT: true; the input reads as it did. -/
def flogNamesSpec : ChangeSpec := { name := "flogNames", fn := fun _ => fun
  | [d] => { results := [.lit (.bool true)], args := [d] }
  | _ => none }
def flogNamesRow : OpenClaim := { program := "ythhpnecamilieaagreatdoor", sum := "a0e048fe5208e9ec99b4ea1802102a95082d971c33fb1e6b359e54e7236e6651", func := "abacist/abacistlaw20.FlogNames", spec := "flogNames", inPlace := ["internal/bytealg.IndexByteString", "internal/bytealg.IndexString"], unfollowed := true, recurses := true, named := ["unicode/utf8.first", "unicode/utf8.acceptRanges", "internal/bytealg.MaxLen"], apart := false, laid := [("unicode/utf8.acceptRanges", laid_unicode_utf8_acceptRanges), ("unicode/utf8.first", laid_unicode_utf8_first)] }
def FlogNamesSaid : Prop := flogNamesRow.holds Tryz.pinned (OpenSpec.ofChange flogNamesSpec)

/-- ITS FALSE NEIGHBOUR: 'it returns false'. Refute it at one input. -/
def flogNamesWrong : ChangeSpec := { name := "flogNames", fn := fun _ => fun
  | [d] => { results := [.lit (.bool false)], args := [d] }
  | _ => none }
def FlogNamesWrongFalsely : Prop := flogNamesRow.holds Tryz.pinned (OpenSpec.ofChange flogNamesWrong)

/-- 'abacistlaw20.FlogRules': WHATEVER THE INPUT: true; the input reads as it did. -/
def flogRulesSpec : ChangeSpec := { name := "flogRules", fn := fun _ => fun
  | [d1, d2, d3, d4] => { results := [.lit (.bool true)], args := [d1, d2, d3, d4] }
  | _ => none }
def flogRulesRow : OpenClaim := { program := "ythhpnecamilieaagreatdoor", sum := "a0e048fe5208e9ec99b4ea1802102a95082d971c33fb1e6b359e54e7236e6651", func := "abacist/abacistlaw20.FlogRules", spec := "flogRules", inPlace := ["internal/bytealg.IndexByteString", "internal/bytealg.IndexString"], unfollowed := true, recurses := true, named := ["unicode/utf8.first", "unicode/utf8.acceptRanges", "internal/bytealg.MaxLen"], apart := false, laid := [("unicode/utf8.acceptRanges", laid_unicode_utf8_acceptRanges), ("unicode/utf8.first", laid_unicode_utf8_first)] }
def FlogRulesSaid : Prop := flogRulesRow.holds Tryz.pinned (OpenSpec.ofChange flogRulesSpec)

/-- ITS FALSE NEIGHBOUR: 'it returns false'. Refute it at one input. -/
def flogRulesWrong : ChangeSpec := { name := "flogRules", fn := fun _ => fun
  | [d1, d2, d3, d4] => { results := [.lit (.bool false)], args := [d1, d2, d3, d4] }
  | _ => none }
def FlogRulesWrongFalsely : Prop := flogRulesRow.holds Tryz.pinned (OpenSpec.ofChange flogRulesWrong)

/-- 'abacistlaw22.FlookNames': WHATEVER THE INPUT: true; the input reads as it did. -/
def flookNamesSpec : ChangeSpec := { name := "flookNames", fn := fun _ => fun
  | [d] => { results := [.lit (.bool true)], args := [d] }
  | _ => none }
def flookNamesRow : OpenClaim := { program := "ythhpnecamilieaagreatdoor", sum := "a0e048fe5208e9ec99b4ea1802102a95082d971c33fb1e6b359e54e7236e6651", func := "abacist/abacistlaw22.FlookNames", spec := "flookNames", inPlace := ["internal/bytealg.IndexByteString", "internal/bytealg.IndexString"], unfollowed := true, recurses := true, named := ["unicode/utf8.first", "unicode/utf8.acceptRanges", "internal/bytealg.MaxLen"], apart := false, laid := [("unicode/utf8.acceptRanges", laid_unicode_utf8_acceptRanges), ("unicode/utf8.first", laid_unicode_utf8_first)] }
def FlookNamesSaid : Prop := flookNamesRow.holds Tryz.pinned (OpenSpec.ofChange flookNamesSpec)

/-- ITS FALSE NEIGHBOUR: 'it returns false'. Refute it at one input. -/
def flookNamesWrong : ChangeSpec := { name := "flookNames", fn := fun _ => fun
  | [d] => { results := [.lit (.bool false)], args := [d] }
  | _ => none }
def FlookNamesWrongFalsely : Prop := flookNamesRow.holds Tryz.pinned (OpenSpec.ofChange flookNamesWrong)

/-- 'abacistlaw22.FlookFinds': WHATEVER THE INPUT: true; the input reads as it did. -/
def flookFindsSpec : ChangeSpec := { name := "flookFinds", fn := fun _ => fun
  | [d1, d2, d3] => { results := [.lit (.bool true)], args := [d1, d2, d3] }
  | _ => none }
def flookFindsRow : OpenClaim := { program := "ythhpnecamilieaagreatdoor", sum := "a0e048fe5208e9ec99b4ea1802102a95082d971c33fb1e6b359e54e7236e6651", func := "abacist/abacistlaw22.FlookFinds", spec := "flookFinds", inPlace := ["internal/bytealg.IndexByteString", "internal/bytealg.IndexString"], unfollowed := true, recurses := true, named := ["unicode/utf8.first", "unicode/utf8.acceptRanges", "internal/bytealg.MaxLen"], apart := false, laid := [("unicode/utf8.acceptRanges", laid_unicode_utf8_acceptRanges), ("unicode/utf8.first", laid_unicode_utf8_first)] }
def FlookFindsSaid : Prop := flookFindsRow.holds Tryz.pinned (OpenSpec.ofChange flookFindsSpec)

/-- ITS FALSE NEIGHBOUR: 'it returns false'. Refute it at one input. -/
def flookFindsWrong : ChangeSpec := { name := "flookFinds", fn := fun _ => fun
  | [d1, d2, d3] => { results := [.lit (.bool false)], args := [d1, d2, d3] }
  | _ => none }
def FlookFindsWrongFalsely : Prop := flookFindsRow.holds Tryz.pinned (OpenSpec.ofChange flookFindsWrong)

/- THE SECOND FORM. 'bulk': how many values and letters a reading holds, each counted each time it is reached (what is shared counts as often as it is met; a slice's spare places count too). A statement '..UptoSaid' is the law's where the arguments, and the package variables that the reading takes, are together of bulk at most 1048576: NARROWER than '..Said'. Prove '..Said' where nothing that the law and all that it calls make is longer than what came in: it says more and counts as full. Else prove '..UptoSaid'. A law counts once. -/
mutual
def uptoBulk {H : Type} : DataW H → Nat
  | .lit (.string bytes) => bytes.length + 1
  | .lit _ => 1
  | .nil => 1
  | .ptr d => uptoBulk d + 1
  | .slice elems spare => uptoBulkAll elems + uptoBulkAll spare + 1
  | .agg parts => uptoBulkAll parts + 1
  | .iface _ d => uptoBulk d + 1
  | .map entries => uptoBulkEntries entries + 1
  | .held _ => 1
def uptoBulkAll {H : Type} : List (DataW H) → Nat
  | [] => 0
  | d :: r => uptoBulk d + uptoBulkAll r
def uptoBulkEntries {H : Type} : List (Lit × DataW H) → Nat
  | [] => 0
  | x :: r => uptoBulkEntry x + uptoBulkEntries r
def uptoBulkEntry {H : Type} : Lit × DataW H → Nat
  | (.string bytes, d) => bytes.length + uptoBulk d + 1
  | (_, d) => uptoBulk d + 1
 end
def uptoSmall : (H : Type) → List (DataW H) → Bool := fun _ ds => decide (uptoBulkAll ds ≤ 1048576)
def OpenSpec.upto (s : _root_.Go.ChangeSpec) : _root_.Go.OpenSpec := { _root_.Go.OpenSpec.ofChange s with cond := some uptoSmall }

/-- 'abacistlaw13.AstTells', WHERE WHAT IT READS IS OF BULK AT MOST 1048576: true; the input reads as it did. -/
def astTellsUptoRow : OpenClaim := { program := "ythhpnecamilieaagreatdoor", sum := "a0e048fe5208e9ec99b4ea1802102a95082d971c33fb1e6b359e54e7236e6651", func := "abacist/abacistlaw13.AstTells", spec := "astTells", inPlace := ["internal/bytealg.IndexByteString", "internal/bytealg.IndexString"], unfollowed := true, recurses := true, named := ["unicode/utf8.first", "unicode/utf8.acceptRanges", "internal/bytealg.MaxLen"], apart := false, laid := [("unicode/utf8.acceptRanges", laid_unicode_utf8_acceptRanges), ("unicode/utf8.first", laid_unicode_utf8_first)], narrowed := true }
def AstTellsUptoSaid : Prop := astTellsUptoRow.holds Tryz.pinned (OpenSpec.upto astTellsSpec)

/-- 'abacistlaw13.AstMakes', WHERE WHAT IT READS IS OF BULK AT MOST 1048576: true; the input reads as it did. -/
def astMakesUptoRow : OpenClaim := { program := "ythhpnecamilieaagreatdoor", sum := "a0e048fe5208e9ec99b4ea1802102a95082d971c33fb1e6b359e54e7236e6651", func := "abacist/abacistlaw13.AstMakes", spec := "astMakes", inPlace := ["internal/bytealg.IndexByteString", "internal/bytealg.IndexString"], unfollowed := true, recurses := true, named := ["unicode/utf8.first", "unicode/utf8.acceptRanges", "internal/bytealg.MaxLen"], apart := false, laid := [("unicode/utf8.acceptRanges", laid_unicode_utf8_acceptRanges), ("unicode/utf8.first", laid_unicode_utf8_first)], narrowed := true }
def AstMakesUptoSaid : Prop := astMakesUptoRow.holds Tryz.pinned (OpenSpec.upto astMakesSpec)

/-- 'abacistlaw13.AstParts', WHERE WHAT IT READS IS OF BULK AT MOST 1048576: true; the input reads as it did. -/
def astPartsUptoRow : OpenClaim := { program := "ythhpnecamilieaagreatdoor", sum := "a0e048fe5208e9ec99b4ea1802102a95082d971c33fb1e6b359e54e7236e6651", func := "abacist/abacistlaw13.AstParts", spec := "astParts", inPlace := ["internal/bytealg.IndexByteString", "internal/bytealg.IndexString"], unfollowed := true, recurses := true, named := ["unicode/utf8.first", "unicode/utf8.acceptRanges", "internal/bytealg.MaxLen"], apart := false, laid := [("unicode/utf8.acceptRanges", laid_unicode_utf8_acceptRanges), ("unicode/utf8.first", laid_unicode_utf8_first)], narrowed := true }
def AstPartsUptoSaid : Prop := astPartsUptoRow.holds Tryz.pinned (OpenSpec.upto astPartsSpec)

/-- 'abacistlaw16.RewriteChanges', WHERE WHAT IT READS IS OF BULK AT MOST 1048576: true; the input reads as it did. -/
def rewriteChangesUptoRow : OpenClaim := { program := "ythhpnecamilieaagreatdoor", sum := "a0e048fe5208e9ec99b4ea1802102a95082d971c33fb1e6b359e54e7236e6651", func := "abacist/abacistlaw16.RewriteChanges", spec := "rewriteChanges", inPlace := ["internal/bytealg.IndexByteString", "internal/bytealg.IndexString"], unfollowed := true, recurses := true, named := ["unicode/utf8.first", "unicode/utf8.acceptRanges", "internal/bytealg.MaxLen"], apart := false, laid := [("unicode/utf8.acceptRanges", laid_unicode_utf8_acceptRanges), ("unicode/utf8.first", laid_unicode_utf8_first)], narrowed := true }
def RewriteChangesUptoSaid : Prop := rewriteChangesUptoRow.holds Tryz.pinned (OpenSpec.upto rewriteChangesSpec)

/-- 'abacistlaw16.RewriteBack', WHERE WHAT IT READS IS OF BULK AT MOST 1048576: true; the input reads as it did. -/
def rewriteBackUptoRow : OpenClaim := { program := "ythhpnecamilieaagreatdoor", sum := "a0e048fe5208e9ec99b4ea1802102a95082d971c33fb1e6b359e54e7236e6651", func := "abacist/abacistlaw16.RewriteBack", spec := "rewriteBack", inPlace := ["internal/bytealg.IndexByteString", "internal/bytealg.IndexString"], unfollowed := true, recurses := true, named := ["unicode/utf8.first", "unicode/utf8.acceptRanges", "internal/bytealg.MaxLen"], apart := false, laid := [("unicode/utf8.acceptRanges", laid_unicode_utf8_acceptRanges), ("unicode/utf8.first", laid_unicode_utf8_first)], narrowed := true }
def RewriteBackUptoSaid : Prop := rewriteBackUptoRow.holds Tryz.pinned (OpenSpec.upto rewriteBackSpec)

/-- 'abacistlaw16.RewriteNames', WHERE WHAT IT READS IS OF BULK AT MOST 1048576: true; the input reads as it did. -/
def rewriteNamesUptoRow : OpenClaim := { program := "ythhpnecamilieaagreatdoor", sum := "a0e048fe5208e9ec99b4ea1802102a95082d971c33fb1e6b359e54e7236e6651", func := "abacist/abacistlaw16.RewriteNames", spec := "rewriteNames", inPlace := ["internal/bytealg.IndexByteString", "internal/bytealg.IndexString"], unfollowed := true, recurses := true, named := ["unicode/utf8.first", "unicode/utf8.acceptRanges", "internal/bytealg.MaxLen"], apart := false, laid := [("unicode/utf8.acceptRanges", laid_unicode_utf8_acceptRanges), ("unicode/utf8.first", laid_unicode_utf8_first)], narrowed := true }
def RewriteNamesUptoSaid : Prop := rewriteNamesUptoRow.holds Tryz.pinned (OpenSpec.upto rewriteNamesSpec)

/-- 'abacistlaw16.RewriteMoves', WHERE WHAT IT READS IS OF BULK AT MOST 1048576: true; the input reads as it did. -/
def rewriteMovesUptoRow : OpenClaim := { program := "ythhpnecamilieaagreatdoor", sum := "a0e048fe5208e9ec99b4ea1802102a95082d971c33fb1e6b359e54e7236e6651", func := "abacist/abacistlaw16.RewriteMoves", spec := "rewriteMoves", inPlace := ["internal/bytealg.IndexByteString", "internal/bytealg.IndexString"], unfollowed := true, recurses := true, named := ["unicode/utf8.first", "unicode/utf8.acceptRanges", "internal/bytealg.MaxLen"], apart := false, laid := [("unicode/utf8.acceptRanges", laid_unicode_utf8_acceptRanges), ("unicode/utf8.first", laid_unicode_utf8_first)], narrowed := true }
def RewriteMovesUptoSaid : Prop := rewriteMovesUptoRow.holds Tryz.pinned (OpenSpec.upto rewriteMovesSpec)

/-- 'abacistlaw20.FlogDoes', WHERE WHAT IT READS IS OF BULK AT MOST 1048576: true; the input reads as it did. -/
def flogDoesUptoRow : OpenClaim := { program := "ythhpnecamilieaagreatdoor", sum := "a0e048fe5208e9ec99b4ea1802102a95082d971c33fb1e6b359e54e7236e6651", func := "abacist/abacistlaw20.FlogDoes", spec := "flogDoes", inPlace := ["internal/bytealg.IndexByteString", "internal/bytealg.IndexString"], unfollowed := true, recurses := true, named := ["unicode/utf8.first", "unicode/utf8.acceptRanges", "internal/bytealg.MaxLen"], apart := false, laid := [("unicode/utf8.acceptRanges", laid_unicode_utf8_acceptRanges), ("unicode/utf8.first", laid_unicode_utf8_first)], narrowed := true }
def FlogDoesUptoSaid : Prop := flogDoesUptoRow.holds Tryz.pinned (OpenSpec.upto flogDoesSpec)

/-- 'abacistlaw20.FlogNames', WHERE WHAT IT READS IS OF BULK AT MOST 1048576: true; the input reads as it did. -/
def flogNamesUptoRow : OpenClaim := { program := "ythhpnecamilieaagreatdoor", sum := "a0e048fe5208e9ec99b4ea1802102a95082d971c33fb1e6b359e54e7236e6651", func := "abacist/abacistlaw20.FlogNames", spec := "flogNames", inPlace := ["internal/bytealg.IndexByteString", "internal/bytealg.IndexString"], unfollowed := true, recurses := true, named := ["unicode/utf8.first", "unicode/utf8.acceptRanges", "internal/bytealg.MaxLen"], apart := false, laid := [("unicode/utf8.acceptRanges", laid_unicode_utf8_acceptRanges), ("unicode/utf8.first", laid_unicode_utf8_first)], narrowed := true }
def FlogNamesUptoSaid : Prop := flogNamesUptoRow.holds Tryz.pinned (OpenSpec.upto flogNamesSpec)

/-- 'abacistlaw20.FlogRules', WHERE WHAT IT READS IS OF BULK AT MOST 1048576: true; the input reads as it did. -/
def flogRulesUptoRow : OpenClaim := { program := "ythhpnecamilieaagreatdoor", sum := "a0e048fe5208e9ec99b4ea1802102a95082d971c33fb1e6b359e54e7236e6651", func := "abacist/abacistlaw20.FlogRules", spec := "flogRules", inPlace := ["internal/bytealg.IndexByteString", "internal/bytealg.IndexString"], unfollowed := true, recurses := true, named := ["unicode/utf8.first", "unicode/utf8.acceptRanges", "internal/bytealg.MaxLen"], apart := false, laid := [("unicode/utf8.acceptRanges", laid_unicode_utf8_acceptRanges), ("unicode/utf8.first", laid_unicode_utf8_first)], narrowed := true }
def FlogRulesUptoSaid : Prop := flogRulesUptoRow.holds Tryz.pinned (OpenSpec.upto flogRulesSpec)

/-- 'abacistlaw22.FlookNames', WHERE WHAT IT READS IS OF BULK AT MOST 1048576: true; the input reads as it did. -/
def flookNamesUptoRow : OpenClaim := { program := "ythhpnecamilieaagreatdoor", sum := "a0e048fe5208e9ec99b4ea1802102a95082d971c33fb1e6b359e54e7236e6651", func := "abacist/abacistlaw22.FlookNames", spec := "flookNames", inPlace := ["internal/bytealg.IndexByteString", "internal/bytealg.IndexString"], unfollowed := true, recurses := true, named := ["unicode/utf8.first", "unicode/utf8.acceptRanges", "internal/bytealg.MaxLen"], apart := false, laid := [("unicode/utf8.acceptRanges", laid_unicode_utf8_acceptRanges), ("unicode/utf8.first", laid_unicode_utf8_first)], narrowed := true }
def FlookNamesUptoSaid : Prop := flookNamesUptoRow.holds Tryz.pinned (OpenSpec.upto flookNamesSpec)

/-- 'abacistlaw22.FlookFinds', WHERE WHAT IT READS IS OF BULK AT MOST 1048576: true; the input reads as it did. -/
def flookFindsUptoRow : OpenClaim := { program := "ythhpnecamilieaagreatdoor", sum := "a0e048fe5208e9ec99b4ea1802102a95082d971c33fb1e6b359e54e7236e6651", func := "abacist/abacistlaw22.FlookFinds", spec := "flookFinds", inPlace := ["internal/bytealg.IndexByteString", "internal/bytealg.IndexString"], unfollowed := true, recurses := true, named := ["unicode/utf8.first", "unicode/utf8.acceptRanges", "internal/bytealg.MaxLen"], apart := false, laid := [("unicode/utf8.acceptRanges", laid_unicode_utf8_acceptRanges), ("unicode/utf8.first", laid_unicode_utf8_first)], narrowed := true }
def FlookFindsUptoSaid : Prop := flookFindsUptoRow.holds Tryz.pinned (OpenSpec.upto flookFindsSpec)

end Rows
end Go.Proofs.YthhpnecamilieaaGreatDoor
