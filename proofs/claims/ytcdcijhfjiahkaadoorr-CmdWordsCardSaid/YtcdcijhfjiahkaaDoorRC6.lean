import Derived.Test.YtcdcijhfjiahkaaDoorRC5
set_option linter.unusedVariables false
namespace Go.Proofs.YtcdcijhfjiahkaaDoorR.K
open Go
/-- Line: both answer alike. -/
theorem line_both (op : List UInt8) (args : List (List UInt8)) (hl : args.length ≤ 1000000000000) (hs : Short args) (hj : (Lib.join (op :: args) [32]).length ≤ 1000000000000) : ∃ b r, cmd_Right (op, args) = some b ∧ abacistref40_Right (op, args) = some b ∧ (b = true → args.length ≤ 28 ∧ op ∈ opsL) ∧
    cmd_Line (op, args) = some r ∧ abacistref40_Line (op, args) = some r ∧ (r.2 = 0 → b = true ∧ r.1 = Lib.join (op :: args) [32] ∧ r.1.length ≤ 500) ∧ (b = true → (Lib.join (op :: args) [32]).length ≤ 500 → r = (Lib.join (op :: args) [32], 0)) := by
  obtain ⟨b, b1, b2, b3, _⟩ := right_both op args (by omega) hs
  have l1 := lineC op args hl hj
  have l2 := lineR op args (by omega) (by omega)
  cases b with
  | false =>
    refine ⟨false, ([], 3), b1, b2, b3, S.succ (cmd_Line_eq _) (S.bind b1 (S.some _)), S.succ (abacistref40_Line_eq _) (S.bind b2 (S.some _)), fun h => ?_, fun h => by cases h⟩
    simp at h
  | true =>
    by_cases hlen : (Lib.join (op :: args) [32]).length ≤ 500
    · have hc : decide (((Lib.join (op :: args) [32]).length : Int) > 500) = false := decide_eq_false (by omega)
      exact ⟨true, (Lib.join (op :: args) [32], 0), b1, b2, b3, S.succ (cmd_Line_eq _) (S.bind b1 (S.bind l1 (S.of_false hc (S.some _)))), S.succ (abacistref40_Line_eq _) (S.bind b2 (S.bind l2 (S.of_false hc (S.some _)))),
        fun _ => ⟨rfl, rfl, hlen⟩, fun _ _ => rfl⟩
    · have hc : decide (((Lib.join (op :: args) [32]).length : Int) > 500) = true := decide_eq_true (by omega)
      refine ⟨true, ([], 9), b1, b2, b3, S.succ (cmd_Line_eq _) (S.bind b1 (S.bind l1 (S.of_true hc (S.some _)))), S.succ (abacistref40_Line_eq _) (S.bind b2 (S.bind l2 (S.of_true hc (S.some _)))), fun h => ?_, fun _ h => absurd h hlen⟩
      simp at h
end Go.Proofs.YtcdcijhfjiahkaaDoorR.K
