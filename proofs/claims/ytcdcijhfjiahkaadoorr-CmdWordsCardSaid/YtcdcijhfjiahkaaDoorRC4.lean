import Derived.Test.YtcdcijhfjiahkaaDoorRC3
set_option linter.unusedVariables false
namespace Go.Proofs.YtcdcijhfjiahkaaDoorR.K
open Go
/-- The arguments from one on. -/
def tailOk (text : Bool) (n : Int) : Nat → List (List UInt8) → Bool
  | _, [] => true
  | i, a :: l => (cond (text && decide ((i : Int) = n - 1)) (okB 32 a) (!decide (a = []) && okB 33 a)) && tailOk text n (i + 1) l
def Short (args : List (List UInt8)) : Prop := ∀ a ∈ args, a.length ≤ 4611686018427387904
theorem right2 (text : Bool) (args : List (List UInt8)) (hl : args.length ≤ 4611686018427387904) (hs : Short args) : ∀ n i : Nat, i + n = args.length → cmd_Right_2 text (args.length : Int) args (args.length : Int) i = some (tailOk text args.length i (args.drop i))
  | 0, i, h => by
    refine S.succ (cmd_Right_2_eq _ _ _ _ _) (S.of_false (decide_eq_false (by omega)) ?_)
    rw [List.drop_eq_nil_of_le (by omega)]
    exact S.some _
  | n + 1, i, h => by
    have hi : i < args.length := by omega
    have hg : args.getD (i : Int).toNat [] = args[i] := by simp [List.getD, hi]
    have hw : IntKind.i64.wrap ((i : Int) + 1) = ((i + 1 : Nat) : Int) := wrap64 (by omega) (by omega)
    have hw2 : IntKind.i64.wrap ((args.length : Int) - 1) = (args.length : Int) - 1 := wrap64 (by omega) (by omega)
    have ha : args[i].length ≤ 4611686018427387904 := hs _ (List.getElem_mem hi)
    rw [List.drop_eq_getElem_cons hi]
    refine S.succ (cmd_Right_2_eq _ _ _ _ _) (S.of_true (decide_eq_true (by omega)) (S.of_true (by simp; omega) ?_))
    rw [hg, hw2]
    have next := right2 text args hl hs n (i + 1) (by omega)
    have four : ∀ c, cmd_Right_4 text (args.length : Int) args (args.length : Int) i c = some (!c && tailOk text args.length (i + 1) (args.drop (i + 1))) := by
      intro c
      refine S.succ (cmd_Right_4_eq _ _ _ _ _ _) ?_
      cases c with
      | true => exact S.some _
      | false => simp only [cond_false, hw]; exact next
    have three : ∀ c, cmd_Right_3 text (args.length : Int) args[i] args (args.length : Int) i c = some ((cond c (okB 32 args[i]) (!decide (args[i] = []) && okB 33 args[i])) && tailOk text args.length (i + 1) (args.drop (i + 1))) := by
      intro c
      refine S.succ (cmd_Right_3_eq _ _ _ _ _ _ _) ?_
      cases c with
      | true =>
        simp only [cond_true]
        refine S.bind (within 32 _ ha) ?_
        cases okB 32 args[i] with
        | true => simp only [Bool.not_true, cond_false, hw, Bool.true_and]; exact next
        | false => exact S.some _
      | false =>
        simp only [cond_false]
        refine S.cond (fun hc => ?_) fun hc => ?_
        · rw [hc]; exact four true
        · rw [hc]
          refine S.bind (within 33 _ ha) ?_
          have := four (!okB 33 args[i])
          simpa using this
    show _ = some ((cond (text && decide ((i : Int) = (args.length : Int) - 1)) (okB 32 args[i]) (!decide (args[i] = []) && okB 33 args[i])) && tailOk text args.length (i + 1) (args.drop (i + 1)))
    cases text with
    | true => exact three _
    | false => exact three false
theorem right2' (text : Bool) (op : List UInt8) (args : List (List UInt8)) (hl : args.length ≤ 4611686018427387904) (hs : Short args) : ∀ n i : Nat, i + n = args.length → abacistref40_Right_2 text (args.length : Int) i op args = some (tailOk text args.length i (args.drop i))
  | 0, i, h => by
    refine S.succ (abacistref40_Right_2_eq _ _ _ _ _) (S.of_false (decide_eq_false (by omega)) ?_)
    rw [List.drop_eq_nil_of_le (by omega)]
    exact S.some _
  | n + 1, i, h => by
    have hi : i < args.length := by omega
    have hg : args.getD (i : Int).toNat [] = args[i] := by simp [List.getD, hi]
    have hw : IntKind.i64.wrap ((i : Int) + 1) = ((i + 1 : Nat) : Int) := wrap64 (by omega) (by omega)
    have hw2 : IntKind.i64.wrap ((args.length : Int) - 1) = (args.length : Int) - 1 := wrap64 (by omega) (by omega)
    have ha : args[i].length ≤ 4611686018427387904 := hs _ (List.getElem_mem hi)
    have hin : (decide (0 ≤ (i : Int)) && decide ((i : Int) < (args.length : Int))) = true := by simp; omega
    rw [List.drop_eq_getElem_cons hi]
    refine S.succ (abacistref40_Right_2_eq _ _ _ _ _) (S.of_true (decide_eq_true (by omega)) ?_)
    rw [hw2]
    have next := right2' text op args hl hs n (i + 1) (by omega)
    have four : ∀ c, abacistref40_Right_4 text (args.length : Int) i c op args = some (!c && tailOk text args.length (i + 1) (args.drop (i + 1))) := by
      intro c
      refine S.succ (abacistref40_Right_4_eq _ _ _ _ _ _) ?_
      cases c with
      | true => exact S.some _
      | false => simp only [cond_false, hw]; exact next
    have three : ∀ c, abacistref40_Right_3 text (args.length : Int) i c op args = some ((cond c (okB 32 args[i]) (!decide (args[i] = []) && okB 33 args[i])) && tailOk text args.length (i + 1) (args.drop (i + 1))) := by
      intro c
      refine S.succ (abacistref40_Right_3_eq _ _ _ _ _ _) ?_
      rw [hg, hin]
      cases c with
      | true =>
        simp only [cond_true]
        refine S.bind (plain 32 _ ha) ?_
        cases okB 32 args[i] with
        | true => simp only [Bool.not_true, cond_false, hw, Bool.true_and]; exact next
        | false => exact S.some _
      | false =>
        simp only [cond_false, cond_true]
        refine S.cond (fun hc => ?_) fun hc => ?_
        · rw [hc]; exact four true
        · rw [hc]
          refine S.bind (plain 33 _ ha) ?_
          have := four (!okB 33 args[i])
          simpa using this
    show _ = some ((cond (text && decide ((i : Int) = (args.length : Int) - 1)) (okB 32 args[i]) (!decide (args[i] = []) && okB 33 args[i])) && tailOk text args.length (i + 1) (args.drop (i + 1)))
    cases text with
    | true => exact three _
    | false => exact three false
end Go.Proofs.YtcdcijhfjiahkaaDoorR.K
