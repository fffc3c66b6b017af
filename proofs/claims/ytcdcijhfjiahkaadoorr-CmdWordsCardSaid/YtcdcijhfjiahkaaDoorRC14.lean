import Derived.Test.YtcdcijhfjiahkaaDoorRC13
import Derived.Test.YtcdcijhfjiahkaaDoorRKR
set_option linter.unusedVariables false
namespace Go.Proofs.YtcdcijhfjiahkaaDoorR.K
open Go
theorem CmdLines (y : List UInt8 × List (List UInt8)) (h : Wf (.pair .str (.sl .str)) y) : abacistlaw40_CmdLines y = some true := by
  obtain ⟨op, args⟩ := y
  have : args.length ≤ maxLen := h.2.1
  exact CmdLines' op args (by unfold maxLen at this; omega)
theorem CmdParse (s : List UInt8) (h : Wf .str s) : abacistlaw40_CmdParse s = some true := CmdParse' s
theorem CmdWords (op : List UInt8) (h : Wf .str op) (i : Int) (_ : Wf (.int .i64) i) : abacistlaw40_CmdWords op i = some true := CmdWords' op i
end Go.Proofs.YtcdcijhfjiahkaaDoorR.K
