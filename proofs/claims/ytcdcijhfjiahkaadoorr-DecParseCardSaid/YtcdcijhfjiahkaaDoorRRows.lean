/-
  NARROWER THAN 'FOR EVERY INPUT', by the rows' own cells (each row's printed sentence says how): NatSmalls: laid · AddrTexts: laid · AddrAreas: laid · NatTwo: laid · NatRules: laid · CmdLines: laid · CmdParse: laid · CmdWords: laid · DecTexts: laid · DecParse: laid.
  DERIVED. THE GIVEN ROWS OF THIS SEAT. 10 by the template 'for every input the law returns true; each argument reads behind the call as it read before'; 0 by the template 'total and deterministic' (their statements: YtcdcijhfjiahkaaDoorRTotals.lean).
  GIVEN WITH THE SEED: the statements are not yours to turn. If you find one false, say at which input.
  Laid BY PROGRAM, IN A SANDBOX (cutbox-rows.mjs): the forced cells as the released guide's own fill.sh prints them over the translation 484c05611275dd3d… (all of the seat's roots in one cut). By AI agents, Wed Nov 11 2026. No macro, syntax, notation, axiom, sorry.
-/
import Derived.Test.YtcdcijhfjiahkaaDoorRChecked
import GoSem.PinnedTables
import GoSem.Claim
import GoSem.ClaimJoined
import GoSem.ClaimMapViews
import Derived.JoinedTies
import Derived.KernelRfl
namespace Go.Proofs.YtcdcijhfjiahkaaDoorR
/- THE CELL 'sum', in the pinned program and in every row, IS THE sha256 OF THE DUMP (.gsa) THAT YtcdcijhfjiahkaaDoorRProg.lean LOADS. Nothing in Lean hashes anything: it is a label: what it is worth is what the hold of that sum in a sandbox is worth. -/
noncomputable def Tryd.pinned : Pinned := { name := "ytcdcijhfjiahkaadoorr", sum := "484c05611275dd3d555fd7d2ef5b65c0643b34e6577b94c13aaf6990b4e50277", checked := Tryd.checked }
namespace Rows
def none {H : Type} : Left H := { results := [], args := [] }

/- WHAT THE LISTED PACKAGE-LEVEL VARIABLES READ AS WHEN THE CALL BEGINS. Each datum BY PROGRAM (the guide's laid-datum.mjs) off the statement by which the dump's own 'gosem.cut.vars' lays the variable. In a bare row this is a premise. The card (YtcdcijhfjiahkaaDoorRCards.lean) ties it to the program's text. -/
def laid_unicode_utf8_acceptRanges {H : Type} : DataW H := .agg [.agg [.lit (.int .u8 128), .lit (.int .u8 191)], .agg [.lit (.int .u8 160), .lit (.int .u8 191)], .agg [.lit (.int .u8 128), .lit (.int .u8 159)], .agg [.lit (.int .u8 144), .lit (.int .u8 191)], .agg [.lit (.int .u8 128), .lit (.int .u8 143)], .agg [.lit (.int .u8 0), .lit (.int .u8 0)], .agg [.lit (.int .u8 0), .lit (.int .u8 0)], .agg [.lit (.int .u8 0), .lit (.int .u8 0)], .agg [.lit (.int .u8 0), .lit (.int .u8 0)], .agg [.lit (.int .u8 0), .lit (.int .u8 0)], .agg [.lit (.int .u8 0), .lit (.int .u8 0)], .agg [.lit (.int .u8 0), .lit (.int .u8 0)], .agg [.lit (.int .u8 0), .lit (.int .u8 0)], .agg [.lit (.int .u8 0), .lit (.int .u8 0)], .agg [.lit (.int .u8 0), .lit (.int .u8 0)], .agg [.lit (.int .u8 0), .lit (.int .u8 0)]]
/-- One of Go's own tables, pinned by name: the form's constant. -/
def laid_unicode_utf8_first : DataW Unit := Go.Pinned.utf8First
def laid_math_bits_deBruijn32tab {H : Type} : DataW H := .agg [.lit (.int .u8 0), .lit (.int .u8 1), .lit (.int .u8 28), .lit (.int .u8 2), .lit (.int .u8 29), .lit (.int .u8 14), .lit (.int .u8 24), .lit (.int .u8 3), .lit (.int .u8 30), .lit (.int .u8 22), .lit (.int .u8 20), .lit (.int .u8 15), .lit (.int .u8 25), .lit (.int .u8 17), .lit (.int .u8 4), .lit (.int .u8 8), .lit (.int .u8 31), .lit (.int .u8 27), .lit (.int .u8 13), .lit (.int .u8 23), .lit (.int .u8 21), .lit (.int .u8 19), .lit (.int .u8 16), .lit (.int .u8 7), .lit (.int .u8 26), .lit (.int .u8 12), .lit (.int .u8 18), .lit (.int .u8 6), .lit (.int .u8 11), .lit (.int .u8 5), .lit (.int .u8 10), .lit (.int .u8 9)]
def laid_math_bits_deBruijn64tab {H : Type} : DataW H := .agg [.lit (.int .u8 0), .lit (.int .u8 1), .lit (.int .u8 56), .lit (.int .u8 2), .lit (.int .u8 57), .lit (.int .u8 49), .lit (.int .u8 28), .lit (.int .u8 3), .lit (.int .u8 61), .lit (.int .u8 58), .lit (.int .u8 42), .lit (.int .u8 50), .lit (.int .u8 38), .lit (.int .u8 29), .lit (.int .u8 17), .lit (.int .u8 4), .lit (.int .u8 62), .lit (.int .u8 47), .lit (.int .u8 59), .lit (.int .u8 36), .lit (.int .u8 45), .lit (.int .u8 43), .lit (.int .u8 51), .lit (.int .u8 22), .lit (.int .u8 53), .lit (.int .u8 39), .lit (.int .u8 33), .lit (.int .u8 30), .lit (.int .u8 24), .lit (.int .u8 18), .lit (.int .u8 12), .lit (.int .u8 5), .lit (.int .u8 63), .lit (.int .u8 55), .lit (.int .u8 48), .lit (.int .u8 27), .lit (.int .u8 60), .lit (.int .u8 41), .lit (.int .u8 37), .lit (.int .u8 16), .lit (.int .u8 46), .lit (.int .u8 35), .lit (.int .u8 44), .lit (.int .u8 21), .lit (.int .u8 52), .lit (.int .u8 32), .lit (.int .u8 23), .lit (.int .u8 11), .lit (.int .u8 54), .lit (.int .u8 26), .lit (.int .u8 40), .lit (.int .u8 15), .lit (.int .u8 34), .lit (.int .u8 20), .lit (.int .u8 31), .lit (.int .u8 10), .lit (.int .u8 25), .lit (.int .u8 14), .lit (.int .u8 19), .lit (.int .u8 9), .lit (.int .u8 13), .lit (.int .u8 8), .lit (.int .u8 7), .lit (.int .u8 6)]
def laid_internal_strconv_uint64pow10 {H : Type} : DataW H := .agg [.lit (.int .u64 1), .lit (.int .u64 10), .lit (.int .u64 100), .lit (.int .u64 1000), .lit (.int .u64 10000), .lit (.int .u64 100000), .lit (.int .u64 1000000), .lit (.int .u64 10000000), .lit (.int .u64 100000000), .lit (.int .u64 1000000000), .lit (.int .u64 10000000000), .lit (.int .u64 100000000000), .lit (.int .u64 1000000000000), .lit (.int .u64 10000000000000), .lit (.int .u64 100000000000000), .lit (.int .u64 1000000000000000), .lit (.int .u64 10000000000000000), .lit (.int .u64 100000000000000000), .lit (.int .u64 1000000000000000000), .lit (.int .u64 10000000000000000000)]

/-- 'abacistlaw01.NatSmalls': WHATEVER THE INPUT: true; the input reads as it did. -/
def natSmallsSpec : ChangeSpec := { name := "natSmalls", fn := fun _ => fun
  | [d1, d2] => { results := [.lit (.bool true)], args := [d1, d2] }
  | _ => none }
def natSmallsRow : OpenClaim := { program := "ytcdcijhfjiahkaadoorr", sum := "484c05611275dd3d555fd7d2ef5b65c0643b34e6577b94c13aaf6990b4e50277", func := "abacist/abacistlaw01.NatSmalls", spec := "natSmalls", inPlace := ["internal/bytealg.IndexByteString", "internal/bytealg.IndexString"], unfollowed := true, recurses := true, named := ["unicode/utf8.first", "unicode/utf8.acceptRanges", "internal/bytealg.MaxLen"], apart := false, laid := [("unicode/utf8.acceptRanges", laid_unicode_utf8_acceptRanges), ("unicode/utf8.first", laid_unicode_utf8_first)] }
def NatSmallsSaid : Prop := natSmallsRow.holds Tryd.pinned (OpenSpec.ofChange natSmallsSpec)

/-- ITS FALSE NEIGHBOUR: 'it returns false'. Refute it at one input. -/
def natSmallsWrong : ChangeSpec := { name := "natSmalls", fn := fun _ => fun
  | [d1, d2] => { results := [.lit (.bool false)], args := [d1, d2] }
  | _ => none }
def NatSmallsWrongFalsely : Prop := natSmallsRow.holds Tryd.pinned (OpenSpec.ofChange natSmallsWrong)

/-- 'abacistlaw10.AddrTexts': WHATEVER THE INPUT: true; the input reads as it did. -/
def addrTextsSpec : ChangeSpec := { name := "addrTexts", fn := fun _ => fun
  | [d1, d2, d3] => { results := [.lit (.bool true)], args := [d1, d2, d3] }
  | _ => none }
def addrTextsRow : OpenClaim := { program := "ytcdcijhfjiahkaadoorr", sum := "484c05611275dd3d555fd7d2ef5b65c0643b34e6577b94c13aaf6990b4e50277", func := "abacist/abacistlaw10.AddrTexts", spec := "addrTexts", unfollowed := true, recurses := true, named := ["internal/strconv.uint64pow10", "math/bits.deBruijn32tab", "math/bits.deBruijn64tab"], apart := false, laid := [("math/bits.deBruijn32tab", laid_math_bits_deBruijn32tab), ("math/bits.deBruijn64tab", laid_math_bits_deBruijn64tab), ("internal/strconv.uint64pow10", laid_internal_strconv_uint64pow10)] }
def AddrTextsSaid : Prop := addrTextsRow.holds Tryd.pinned (OpenSpec.ofChange addrTextsSpec)

/-- ITS FALSE NEIGHBOUR: 'it returns false'. Refute it at one input. -/
def addrTextsWrong : ChangeSpec := { name := "addrTexts", fn := fun _ => fun
  | [d1, d2, d3] => { results := [.lit (.bool false)], args := [d1, d2, d3] }
  | _ => none }
def AddrTextsWrongFalsely : Prop := addrTextsRow.holds Tryd.pinned (OpenSpec.ofChange addrTextsWrong)

/-- 'abacistlaw10.AddrAreas': WHATEVER THE INPUT: true; the input reads as it did. -/
def addrAreasSpec : ChangeSpec := { name := "addrAreas", fn := fun _ => fun
  | [d1, d2, d3, d4] => { results := [.lit (.bool true)], args := [d1, d2, d3, d4] }
  | _ => none }
def addrAreasRow : OpenClaim := { program := "ytcdcijhfjiahkaadoorr", sum := "484c05611275dd3d555fd7d2ef5b65c0643b34e6577b94c13aaf6990b4e50277", func := "abacist/abacistlaw10.AddrAreas", spec := "addrAreas", unfollowed := true, recurses := true, named := ["internal/strconv.uint64pow10", "math/bits.deBruijn32tab", "math/bits.deBruijn64tab"], apart := false, laid := [("math/bits.deBruijn32tab", laid_math_bits_deBruijn32tab), ("math/bits.deBruijn64tab", laid_math_bits_deBruijn64tab), ("internal/strconv.uint64pow10", laid_internal_strconv_uint64pow10)] }
def AddrAreasSaid : Prop := addrAreasRow.holds Tryd.pinned (OpenSpec.ofChange addrAreasSpec)

/-- ITS FALSE NEIGHBOUR: 'it returns false'. Refute it at one input. -/
def addrAreasWrong : ChangeSpec := { name := "addrAreas", fn := fun _ => fun
  | [d1, d2, d3, d4] => { results := [.lit (.bool false)], args := [d1, d2, d3, d4] }
  | _ => none }
def AddrAreasWrongFalsely : Prop := addrAreasRow.holds Tryd.pinned (OpenSpec.ofChange addrAreasWrong)

/-- 'abacistlaw01.NatTwo': WHATEVER THE INPUT: true; the input reads as it did. -/
def natTwoSpec : ChangeSpec := { name := "natTwo", fn := fun _ => fun
  | [d1, d2] => { results := [.lit (.bool true)], args := [d1, d2] }
  | _ => none }
def natTwoRow : OpenClaim := { program := "ytcdcijhfjiahkaadoorr", sum := "484c05611275dd3d555fd7d2ef5b65c0643b34e6577b94c13aaf6990b4e50277", func := "abacist/abacistlaw01.NatTwo", spec := "natTwo", inPlace := ["internal/bytealg.IndexByteString", "internal/bytealg.IndexString"], unfollowed := true, recurses := true, named := ["unicode/utf8.first", "unicode/utf8.acceptRanges", "internal/bytealg.MaxLen"], apart := false, laid := [("unicode/utf8.acceptRanges", laid_unicode_utf8_acceptRanges), ("unicode/utf8.first", laid_unicode_utf8_first)] }
def NatTwoSaid : Prop := natTwoRow.holds Tryd.pinned (OpenSpec.ofChange natTwoSpec)

/-- ITS FALSE NEIGHBOUR: 'it returns false'. Refute it at one input. -/
def natTwoWrong : ChangeSpec := { name := "natTwo", fn := fun _ => fun
  | [d1, d2] => { results := [.lit (.bool false)], args := [d1, d2] }
  | _ => none }
def NatTwoWrongFalsely : Prop := natTwoRow.holds Tryd.pinned (OpenSpec.ofChange natTwoWrong)

/-- 'abacistlaw01.NatRules': WHATEVER THE INPUT: true; the input reads as it did. -/
def natRulesSpec : ChangeSpec := { name := "natRules", fn := fun _ => fun
  | [d1, d2, d3] => { results := [.lit (.bool true)], args := [d1, d2, d3] }
  | _ => none }
def natRulesRow : OpenClaim := { program := "ytcdcijhfjiahkaadoorr", sum := "484c05611275dd3d555fd7d2ef5b65c0643b34e6577b94c13aaf6990b4e50277", func := "abacist/abacistlaw01.NatRules", spec := "natRules", inPlace := ["internal/bytealg.IndexByteString", "internal/bytealg.IndexString"], unfollowed := true, recurses := true, named := ["unicode/utf8.first", "unicode/utf8.acceptRanges", "internal/bytealg.MaxLen"], apart := false, laid := [("unicode/utf8.acceptRanges", laid_unicode_utf8_acceptRanges), ("unicode/utf8.first", laid_unicode_utf8_first)] }
def NatRulesSaid : Prop := natRulesRow.holds Tryd.pinned (OpenSpec.ofChange natRulesSpec)

/-- ITS FALSE NEIGHBOUR: 'it returns false'. Refute it at one input. -/
def natRulesWrong : ChangeSpec := { name := "natRules", fn := fun _ => fun
  | [d1, d2, d3] => { results := [.lit (.bool false)], args := [d1, d2, d3] }
  | _ => none }
def NatRulesWrongFalsely : Prop := natRulesRow.holds Tryd.pinned (OpenSpec.ofChange natRulesWrong)

/-- 'abacistlaw40.CmdLines': WHATEVER THE INPUT: true; the input reads as it did. -/
def cmdLinesSpec : ChangeSpec := { name := "cmdLines", fn := fun _ => fun
  | [d] => { results := [.lit (.bool true)], args := [d] }
  | _ => none }
def cmdLinesRow : OpenClaim := { program := "ytcdcijhfjiahkaadoorr", sum := "484c05611275dd3d555fd7d2ef5b65c0643b34e6577b94c13aaf6990b4e50277", func := "abacist/abacistlaw40.CmdLines", spec := "cmdLines", inPlace := ["internal/bytealg.IndexByteString", "internal/bytealg.IndexString", "internal/bytealg.CountString", "internal/abi.NoEscape", "internal/bytealg.MakeNoZero"], named := ["internal/bytealg.MaxLen", "unicode/utf8.first", "unicode/utf8.acceptRanges"], apart := false, laid := [("unicode/utf8.acceptRanges", laid_unicode_utf8_acceptRanges), ("unicode/utf8.first", laid_unicode_utf8_first)] }
def CmdLinesSaid : Prop := cmdLinesRow.holds Tryd.pinned (OpenSpec.ofChange cmdLinesSpec)

/-- ITS FALSE NEIGHBOUR: 'it returns false'. Refute it at one input. -/
def cmdLinesWrong : ChangeSpec := { name := "cmdLines", fn := fun _ => fun
  | [d] => { results := [.lit (.bool false)], args := [d] }
  | _ => none }
def CmdLinesWrongFalsely : Prop := cmdLinesRow.holds Tryd.pinned (OpenSpec.ofChange cmdLinesWrong)

/-- 'abacistlaw40.CmdParse': WHATEVER THE INPUT: true; the input reads as it did. -/
def cmdParseSpec : ChangeSpec := { name := "cmdParse", fn := fun _ => fun
  | [d] => { results := [.lit (.bool true)], args := [d] }
  | _ => none }
def cmdParseRow : OpenClaim := { program := "ytcdcijhfjiahkaadoorr", sum := "484c05611275dd3d555fd7d2ef5b65c0643b34e6577b94c13aaf6990b4e50277", func := "abacist/abacistlaw40.CmdParse", spec := "cmdParse", inPlace := ["internal/bytealg.IndexByteString", "internal/bytealg.IndexString", "internal/bytealg.CountString", "internal/abi.NoEscape", "internal/bytealg.MakeNoZero"], named := ["internal/bytealg.MaxLen", "unicode/utf8.first", "unicode/utf8.acceptRanges"], apart := false, laid := [("unicode/utf8.acceptRanges", laid_unicode_utf8_acceptRanges), ("unicode/utf8.first", laid_unicode_utf8_first)] }
def CmdParseSaid : Prop := cmdParseRow.holds Tryd.pinned (OpenSpec.ofChange cmdParseSpec)

/-- ITS FALSE NEIGHBOUR: 'it returns false'. Refute it at one input. -/
def cmdParseWrong : ChangeSpec := { name := "cmdParse", fn := fun _ => fun
  | [d] => { results := [.lit (.bool false)], args := [d] }
  | _ => none }
def CmdParseWrongFalsely : Prop := cmdParseRow.holds Tryd.pinned (OpenSpec.ofChange cmdParseWrong)

/-- 'abacistlaw40.CmdWords': WHATEVER THE INPUT: true; the input reads as it did. -/
def cmdWordsSpec : ChangeSpec := { name := "cmdWords", fn := fun _ => fun
  | [d1, d2] => { results := [.lit (.bool true)], args := [d1, d2] }
  | _ => none }
def cmdWordsRow : OpenClaim := { program := "ytcdcijhfjiahkaadoorr", sum := "484c05611275dd3d555fd7d2ef5b65c0643b34e6577b94c13aaf6990b4e50277", func := "abacist/abacistlaw40.CmdWords", spec := "cmdWords", inPlace := ["internal/bytealg.IndexByteString", "internal/bytealg.IndexString", "internal/bytealg.CountString", "internal/abi.NoEscape", "internal/bytealg.MakeNoZero"], named := ["internal/bytealg.MaxLen", "unicode/utf8.first", "unicode/utf8.acceptRanges"], apart := false, laid := [("unicode/utf8.acceptRanges", laid_unicode_utf8_acceptRanges), ("unicode/utf8.first", laid_unicode_utf8_first)] }
def CmdWordsSaid : Prop := cmdWordsRow.holds Tryd.pinned (OpenSpec.ofChange cmdWordsSpec)

/-- ITS FALSE NEIGHBOUR: 'it returns false'. Refute it at one input. -/
def cmdWordsWrong : ChangeSpec := { name := "cmdWords", fn := fun _ => fun
  | [d1, d2] => { results := [.lit (.bool false)], args := [d1, d2] }
  | _ => none }
def CmdWordsWrongFalsely : Prop := cmdWordsRow.holds Tryd.pinned (OpenSpec.ofChange cmdWordsWrong)

/-- 'abacistlaw03.DecTexts': WHATEVER THE INPUT: true; the input reads as it did. -/
def decTextsSpec : ChangeSpec := { name := "decTexts", fn := fun _ => fun
  | [d] => { results := [.lit (.bool true)], args := [d] }
  | _ => none }
def decTextsRow : OpenClaim := { program := "ytcdcijhfjiahkaadoorr", sum := "484c05611275dd3d555fd7d2ef5b65c0643b34e6577b94c13aaf6990b4e50277", func := "abacist/abacistlaw03.DecTexts", spec := "decTexts", inPlace := ["internal/bytealg.IndexByteString", "internal/bytealg.IndexString", "internal/abi.NoEscape"], unfollowed := true, recurses := true, named := ["unicode/utf8.first", "unicode/utf8.acceptRanges", "internal/bytealg.MaxLen"], apart := false, laid := [("unicode/utf8.acceptRanges", laid_unicode_utf8_acceptRanges), ("unicode/utf8.first", laid_unicode_utf8_first)] }
def DecTextsSaid : Prop := decTextsRow.holds Tryd.pinned (OpenSpec.ofChange decTextsSpec)

/-- ITS FALSE NEIGHBOUR: 'it returns false'. Refute it at one input. -/
def decTextsWrong : ChangeSpec := { name := "decTexts", fn := fun _ => fun
  | [d] => { results := [.lit (.bool false)], args := [d] }
  | _ => none }
def DecTextsWrongFalsely : Prop := decTextsRow.holds Tryd.pinned (OpenSpec.ofChange decTextsWrong)

/-- 'abacistlaw03.DecParse': WHATEVER THE INPUT: true; the input reads as it did. -/
def decParseSpec : ChangeSpec := { name := "decParse", fn := fun _ => fun
  | [d] => { results := [.lit (.bool true)], args := [d] }
  | _ => none }
def decParseRow : OpenClaim := { program := "ytcdcijhfjiahkaadoorr", sum := "484c05611275dd3d555fd7d2ef5b65c0643b34e6577b94c13aaf6990b4e50277", func := "abacist/abacistlaw03.DecParse", spec := "decParse", inPlace := ["internal/bytealg.IndexByteString", "internal/bytealg.IndexString", "internal/abi.NoEscape"], unfollowed := true, recurses := true, named := ["unicode/utf8.first", "unicode/utf8.acceptRanges", "internal/bytealg.MaxLen"], apart := false, laid := [("unicode/utf8.acceptRanges", laid_unicode_utf8_acceptRanges), ("unicode/utf8.first", laid_unicode_utf8_first)] }
def DecParseSaid : Prop := decParseRow.holds Tryd.pinned (OpenSpec.ofChange decParseSpec)

/-- ITS FALSE NEIGHBOUR: 'it returns false'. Refute it at one input. -/
def decParseWrong : ChangeSpec := { name := "decParse", fn := fun _ => fun
  | [d] => { results := [.lit (.bool false)], args := [d] }
  | _ => none }
def DecParseWrongFalsely : Prop := decParseRow.holds Tryd.pinned (OpenSpec.ofChange decParseWrong)

/- THE SECOND FORM. 'bulk': how many values and letters a reading holds, each counted each time it is reached (what is shared counts as often as it is met; a slice's spare places count too). A statement '..UptoSaid' is the law's where the arguments, and the package variables that the reading takes, are together of bulk at most 1048576: NARROWER than '..Said'. Prove '..Said' where nothing that the law and all that it calls make is longer than what came in: it says more and counts as full. Else prove '..UptoSaid'. A law counts once. -/
mutual
def uptoBulk {H : Type} : DataW H → Nat
  | .lit (.string bytes) => bytes.length + 1
  | .lit _ => 1
  | .nil => 1
  | .ptr d => uptoBulk d + 1
  | .slice elems spare => uptoBulkAll elems + uptoBulkAll spare + 1
  | .agg parts => uptoBulkAll parts + 1
  | .iface _ d => uptoBulk d + 1
  | .map entries => uptoBulkEntries entries + 1
  | .held _ => 1
def uptoBulkAll {H : Type} : List (DataW H) → Nat
  | [] => 0
  | d :: r => uptoBulk d + uptoBulkAll r
def uptoBulkEntries {H : Type} : List (Lit × DataW H) → Nat
  | [] => 0
  | x :: r => uptoBulkEntry x + uptoBulkEntries r
def uptoBulkEntry {H : Type} : Lit × DataW H → Nat
  | (.string bytes, d) => bytes.length + uptoBulk d + 1
  | (_, d) => uptoBulk d + 1
 end
def uptoSmall : (H : Type) → List (DataW H) → Bool := fun _ ds => decide (uptoBulkAll ds ≤ 1048576)
def OpenSpec.upto (s : _root_.Go.ChangeSpec) : _root_.Go.OpenSpec := { _root_.Go.OpenSpec.ofChange s with cond := some uptoSmall }

/-- 'abacistlaw01.NatSmalls', WHERE WHAT IT READS IS OF BULK AT MOST 1048576: true; the input reads as it did. -/
def natSmallsUptoRow : OpenClaim := { program := "ytcdcijhfjiahkaadoorr", sum := "484c05611275dd3d555fd7d2ef5b65c0643b34e6577b94c13aaf6990b4e50277", func := "abacist/abacistlaw01.NatSmalls", spec := "natSmalls", inPlace := ["internal/bytealg.IndexByteString", "internal/bytealg.IndexString"], unfollowed := true, recurses := true, named := ["unicode/utf8.first", "unicode/utf8.acceptRanges", "internal/bytealg.MaxLen"], apart := false, laid := [("unicode/utf8.acceptRanges", laid_unicode_utf8_acceptRanges), ("unicode/utf8.first", laid_unicode_utf8_first)], narrowed := true }
def NatSmallsUptoSaid : Prop := natSmallsUptoRow.holds Tryd.pinned (OpenSpec.upto natSmallsSpec)

/-- 'abacistlaw10.AddrTexts', WHERE WHAT IT READS IS OF BULK AT MOST 1048576: true; the input reads as it did. -/
def addrTextsUptoRow : OpenClaim := { program := "ytcdcijhfjiahkaadoorr", sum := "484c05611275dd3d555fd7d2ef5b65c0643b34e6577b94c13aaf6990b4e50277", func := "abacist/abacistlaw10.AddrTexts", spec := "addrTexts", unfollowed := true, recurses := true, named := ["internal/strconv.uint64pow10", "math/bits.deBruijn32tab", "math/bits.deBruijn64tab"], apart := false, laid := [("math/bits.deBruijn32tab", laid_math_bits_deBruijn32tab), ("math/bits.deBruijn64tab", laid_math_bits_deBruijn64tab), ("internal/strconv.uint64pow10", laid_internal_strconv_uint64pow10)], narrowed := true }
def AddrTextsUptoSaid : Prop := addrTextsUptoRow.holds Tryd.pinned (OpenSpec.upto addrTextsSpec)

/-- 'abacistlaw10.AddrAreas', WHERE WHAT IT READS IS OF BULK AT MOST 1048576: true; the input reads as it did. -/
def addrAreasUptoRow : OpenClaim := { program := "ytcdcijhfjiahkaadoorr", sum := "484c05611275dd3d555fd7d2ef5b65c0643b34e6577b94c13aaf6990b4e50277", func := "abacist/abacistlaw10.AddrAreas", spec := "addrAreas", unfollowed := true, recurses := true, named := ["internal/strconv.uint64pow10", "math/bits.deBruijn32tab", "math/bits.deBruijn64tab"], apart := false, laid := [("math/bits.deBruijn32tab", laid_math_bits_deBruijn32tab), ("math/bits.deBruijn64tab", laid_math_bits_deBruijn64tab), ("internal/strconv.uint64pow10", laid_internal_strconv_uint64pow10)], narrowed := true }
def AddrAreasUptoSaid : Prop := addrAreasUptoRow.holds Tryd.pinned (OpenSpec.upto addrAreasSpec)

/-- 'abacistlaw01.NatTwo', WHERE WHAT IT READS IS OF BULK AT MOST 1048576: true; the input reads as it did. -/
def natTwoUptoRow : OpenClaim := { program := "ytcdcijhfjiahkaadoorr", sum := "484c05611275dd3d555fd7d2ef5b65c0643b34e6577b94c13aaf6990b4e50277", func := "abacist/abacistlaw01.NatTwo", spec := "natTwo", inPlace := ["internal/bytealg.IndexByteString", "internal/bytealg.IndexString"], unfollowed := true, recurses := true, named := ["unicode/utf8.first", "unicode/utf8.acceptRanges", "internal/bytealg.MaxLen"], apart := false, laid := [("unicode/utf8.acceptRanges", laid_unicode_utf8_acceptRanges), ("unicode/utf8.first", laid_unicode_utf8_first)], narrowed := true }
def NatTwoUptoSaid : Prop := natTwoUptoRow.holds Tryd.pinned (OpenSpec.upto natTwoSpec)

/-- 'abacistlaw01.NatRules', WHERE WHAT IT READS IS OF BULK AT MOST 1048576: true; the input reads as it did. -/
def natRulesUptoRow : OpenClaim := { program := "ytcdcijhfjiahkaadoorr", sum := "484c05611275dd3d555fd7d2ef5b65c0643b34e6577b94c13aaf6990b4e50277", func := "abacist/abacistlaw01.NatRules", spec := "natRules", inPlace := ["internal/bytealg.IndexByteString", "internal/bytealg.IndexString"], unfollowed := true, recurses := true, named := ["unicode/utf8.first", "unicode/utf8.acceptRanges", "internal/bytealg.MaxLen"], apart := false, laid := [("unicode/utf8.acceptRanges", laid_unicode_utf8_acceptRanges), ("unicode/utf8.first", laid_unicode_utf8_first)], narrowed := true }
def NatRulesUptoSaid : Prop := natRulesUptoRow.holds Tryd.pinned (OpenSpec.upto natRulesSpec)

/-- 'abacistlaw40.CmdLines', WHERE WHAT IT READS IS OF BULK AT MOST 1048576: true; the input reads as it did. -/
def cmdLinesUptoRow : OpenClaim := { program := "ytcdcijhfjiahkaadoorr", sum := "484c05611275dd3d555fd7d2ef5b65c0643b34e6577b94c13aaf6990b4e50277", func := "abacist/abacistlaw40.CmdLines", spec := "cmdLines", inPlace := ["internal/bytealg.IndexByteString", "internal/bytealg.IndexString", "internal/bytealg.CountString", "internal/abi.NoEscape", "internal/bytealg.MakeNoZero"], named := ["internal/bytealg.MaxLen", "unicode/utf8.first", "unicode/utf8.acceptRanges"], apart := false, laid := [("unicode/utf8.acceptRanges", laid_unicode_utf8_acceptRanges), ("unicode/utf8.first", laid_unicode_utf8_first)], narrowed := true }
def CmdLinesUptoSaid : Prop := cmdLinesUptoRow.holds Tryd.pinned (OpenSpec.upto cmdLinesSpec)

/-- 'abacistlaw40.CmdParse', WHERE WHAT IT READS IS OF BULK AT MOST 1048576: true; the input reads as it did. -/
def cmdParseUptoRow : OpenClaim := { program := "ytcdcijhfjiahkaadoorr", sum := "484c05611275dd3d555fd7d2ef5b65c0643b34e6577b94c13aaf6990b4e50277", func := "abacist/abacistlaw40.CmdParse", spec := "cmdParse", inPlace := ["internal/bytealg.IndexByteString", "internal/bytealg.IndexString", "internal/bytealg.CountString", "internal/abi.NoEscape", "internal/bytealg.MakeNoZero"], named := ["internal/bytealg.MaxLen", "unicode/utf8.first", "unicode/utf8.acceptRanges"], apart := false, laid := [("unicode/utf8.acceptRanges", laid_unicode_utf8_acceptRanges), ("unicode/utf8.first", laid_unicode_utf8_first)], narrowed := true }
def CmdParseUptoSaid : Prop := cmdParseUptoRow.holds Tryd.pinned (OpenSpec.upto cmdParseSpec)

/-- 'abacistlaw40.CmdWords', WHERE WHAT IT READS IS OF BULK AT MOST 1048576: true; the input reads as it did. -/
def cmdWordsUptoRow : OpenClaim := { program := "ytcdcijhfjiahkaadoorr", sum := "484c05611275dd3d555fd7d2ef5b65c0643b34e6577b94c13aaf6990b4e50277", func := "abacist/abacistlaw40.CmdWords", spec := "cmdWords", inPlace := ["internal/bytealg.IndexByteString", "internal/bytealg.IndexString", "internal/bytealg.CountString", "internal/abi.NoEscape", "internal/bytealg.MakeNoZero"], named := ["internal/bytealg.MaxLen", "unicode/utf8.first", "unicode/utf8.acceptRanges"], apart := false, laid := [("unicode/utf8.acceptRanges", laid_unicode_utf8_acceptRanges), ("unicode/utf8.first", laid_unicode_utf8_first)], narrowed := true }
def CmdWordsUptoSaid : Prop := cmdWordsUptoRow.holds Tryd.pinned (OpenSpec.upto cmdWordsSpec)

/-- 'abacistlaw03.DecTexts', WHERE WHAT IT READS IS OF BULK AT MOST 1048576: true; the input reads as it did. -/
def decTextsUptoRow : OpenClaim := { program := "ytcdcijhfjiahkaadoorr", sum := "484c05611275dd3d555fd7d2ef5b65c0643b34e6577b94c13aaf6990b4e50277", func := "abacist/abacistlaw03.DecTexts", spec := "decTexts", inPlace := ["internal/bytealg.IndexByteString", "internal/bytealg.IndexString", "internal/abi.NoEscape"], unfollowed := true, recurses := true, named := ["unicode/utf8.first", "unicode/utf8.acceptRanges", "internal/bytealg.MaxLen"], apart := false, laid := [("unicode/utf8.acceptRanges", laid_unicode_utf8_acceptRanges), ("unicode/utf8.first", laid_unicode_utf8_first)], narrowed := true }
def DecTextsUptoSaid : Prop := decTextsUptoRow.holds Tryd.pinned (OpenSpec.upto decTextsSpec)

/-- 'abacistlaw03.DecParse', WHERE WHAT IT READS IS OF BULK AT MOST 1048576: true; the input reads as it did. -/
def decParseUptoRow : OpenClaim := { program := "ytcdcijhfjiahkaadoorr", sum := "484c05611275dd3d555fd7d2ef5b65c0643b34e6577b94c13aaf6990b4e50277", func := "abacist/abacistlaw03.DecParse", spec := "decParse", inPlace := ["internal/bytealg.IndexByteString", "internal/bytealg.IndexString", "internal/abi.NoEscape"], unfollowed := true, recurses := true, named := ["unicode/utf8.first", "unicode/utf8.acceptRanges", "internal/bytealg.MaxLen"], apart := false, laid := [("unicode/utf8.acceptRanges", laid_unicode_utf8_acceptRanges), ("unicode/utf8.first", laid_unicode_utf8_first)], narrowed := true }
def DecParseUptoSaid : Prop := decParseUptoRow.holds Tryd.pinned (OpenSpec.upto decParseSpec)

end Rows
end Go.Proofs.YtcdcijhfjiahkaaDoorR
