import Derived.Test.YtcdcijhfjiahkaaDoorRC6
set_option linter.unusedVariables false
namespace Go.Proofs.YtcdcijhfjiahkaaDoorR.K
open Go
theorem same2 (op op' : List UInt8) (a b : List (List UInt8)) (hl : a.length ≤ 4611686018427387904) (hab : a.length = b.length) : ∀ n i : Nat, i + n = a.length → abacistref40_Same_2 i op a op' b = some (decide (a.drop i = b.drop i))
  | 0, i, h => by
    refine S.succ (abacistref40_Same_2_eq _ _ _ _ _) (S.of_false (decide_eq_false (by omega)) ?_)
    rw [List.drop_eq_nil_of_le (by omega), List.drop_eq_nil_of_le (by omega)]
    exact S.some _
  | n + 1, i, h => by
    have hi : i < a.length := by omega
    have hi' : i < b.length := by omega
    have hg : a.getD (i : Int).toNat [] = a[i] := by simp [List.getD, hi]
    have hg' : b.getD (i : Int).toNat [] = b[i] := by simp [List.getD, hi']
    have hw : IntKind.i64.wrap ((i : Int) + 1) = ((i + 1 : Nat) : Int) := wrap64 (by omega) (by omega)
    rw [List.drop_eq_getElem_cons hi, List.drop_eq_getElem_cons hi']
    refine S.succ (abacistref40_Same_2_eq _ _ _ _ _) (S.of_true (decide_eq_true (by omega)) (S.of_true (by simp; omega) (S.of_true (by simp; omega) ?_)))
    rw [hg, hg']
    by_cases hx : a[i] = b[i]
    · have e : decide (a[i] :: a.drop (i + 1) = b[i] :: b.drop (i + 1)) = decide (a.drop (i + 1) = b.drop (i + 1)) := by simp only [hx, List.cons.injEq, true_and]
      rw [e]
      refine S.of_false (by simp [hx]) ?_
      rw [hw]; exact same2 op op' a b hl hab n (i + 1) (by omega)
    · have e : decide (a[i] :: a.drop (i + 1) = b[i] :: b.drop (i + 1)) = false := decide_eq_false (fun h => hx (List.cons.inj h).1)
      rw [e]
      exact S.of_true (by simp [hx]) (S.some _)
theorem same (x y : List UInt8 × List (List UInt8)) (hl : x.2.length ≤ 4611686018427387904) : abacistref40_Same x y = some (decide (x = y)) := by
  obtain ⟨op, a⟩ := x
  obtain ⟨op', b⟩ := y
  have one : ∀ c, (c = false → a.length = b.length) → abacistref40_Same_1 c op a op' b = some (!c && decide (a = b)) := by
    intro c hc
    refine S.succ (abacistref40_Same_1_eq _ _ _ _ _) ?_
    cases c with
    | true => exact S.some _
    | false => exact same2 op op' a b hl (hc rfl) a.length 0 (by omega)
  refine S.succ (abacistref40_Same_eq _ _) ?_
  by_cases ho : op = op'
  · refine S.of_false (by simp [ho]) ?_
    by_cases hn : a.length = b.length
    · have := one (!decide ((a.length : Int) = (b.length : Int))) (fun _ => hn)
      have e : decide ((op, a) = (op', b)) = (!(!decide ((a.length : Int) = (b.length : Int))) && decide (a = b)) := by simp [ho, hn]
      rw [e]; exact this
    · have e : decide ((op, a) = (op', b)) = false := by simp; intro _ h; exact hn (by rw [h])
      have := one true (fun h => by cases h)
      have e2 : (!decide ((a.length : Int) = (b.length : Int))) = true := by simp; omega
      show abacistref40_Same_1 (!decide ((a.length : Int) = (b.length : Int))) op a op' b = some _
      rw [e, e2]; exact this
  · have e : decide ((op, a) = (op', b)) = false := by simp [ho]
    rw [e]
    exact S.of_true (by simp [ho]) (one true fun h => by cases h)
end Go.Proofs.YtcdcijhfjiahkaaDoorR.K
