import Derived.Test.YtcdcijhfjiahkaaDoorRC1
import Derived.Test.YtcdcijhfjiahkaaDoorRC2
set_option linter.unusedVariables false
namespace Go.Proofs.YtcdcijhfjiahkaaDoorR.K
open Go
theorem line1 (op : List UInt8) (args : List (List UInt8)) (hl : args.length ≤ 4611686018427387904) : ∀ n i : Nat, i + n = args.length → ∀ s : List UInt8, (s ++ Lib.joinTail [32] (args.drop i)).length ≤ 4611686018427387904 →
    abacistref40_line_1 s i op args = some (s ++ Lib.joinTail [32] (args.drop i))
  | 0, i, h, s, hs => by
    refine S.succ (abacistref40_line_1_eq _ _ _ _) (S.of_false (decide_eq_false (by omega)) ?_)
    rw [List.drop_eq_nil_of_le (by omega)]
    simp only [Lib.joinTail, List.map_nil, List.flatten_nil, List.append_nil]
  | n + 1, i, h, s, hs => by
    have hi : i < args.length := by omega
    have hg : args.getD (i : Int).toNat [] = args[i] := by simp [List.getD, hi]
    have hw : IntKind.i64.wrap ((i : Int) + 1) = ((i + 1 : Nat) : Int) := wrap64 (by omega) (by omega)
    rw [List.drop_eq_getElem_cons hi] at hs ⊢
    have e : s ++ Lib.joinTail [32] (args[i] :: args.drop (i + 1)) = (s ++ [32]) ++ args[i] ++ Lib.joinTail [32] (args.drop (i + 1)) := by simp only [Lib.joinTail, List.map_cons, List.flatten_cons, List.append_assoc]
    rw [e] at hs ⊢
    have hs' := hs
    simp only [List.length_append, List.length_cons, List.length_nil] at hs'
    refine S.succ (abacistref40_line_1_eq _ _ _ _) (S.of_true (decide_eq_true (by omega)) (S.of_true (Nat.ble_eq_true_of_le (by simp; omega)) (S.of_true (by simp; omega) ?_)))
    rw [hg]
    refine S.of_true (Nat.ble_eq_true_of_le (by simp; omega)) ?_
    rw [hw]
    exact line1 op args hl n (i + 1) (by omega) _ hs
theorem lineR (op : List UInt8) (args : List (List UInt8)) (hl : args.length ≤ 4611686018427387904) (hs : (Lib.join (op :: args) [32]).length ≤ 4611686018427387904) : abacistref40_line (op, args) = some (Lib.join (op :: args) [32]) := by
  rw [Lib.join_cons] at hs ⊢
  exact S.succ (abacistref40_line_eq _) (line1 op args hl args.length 0 (by omega) op hs)
theorem lineC (op : List UInt8) (args : List (List UInt8)) (hl : args.length ≤ 1000000000000) (hs : (Lib.join (op :: args) [32]).length ≤ 1000000000000) : cmd_line (op, args) = some (Lib.join (op :: args) [32]) := by
  refine S.succ (cmd_line_eq _) (S.of_true (Nat.ble_eq_true_of_le (by simp; omega)) (S.bind (a := Lib.join (op :: args) [32]) ?_ (S.some _)))
  refine (top_call ..).trans ?_
  show joinF (op :: args, [32]) = _
  unfold joinF
  rw [show (decide ((op :: args).length ≤ 140737488355328) && decide ((Lib.join (op :: args) [32]).length ≤ 140737488355328)) = true by simp; omega]
  rfl
end Go.Proofs.YtcdcijhfjiahkaaDoorR.K
