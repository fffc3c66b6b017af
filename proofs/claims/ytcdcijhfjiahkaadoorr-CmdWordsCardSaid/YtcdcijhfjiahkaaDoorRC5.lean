import Derived.Test.YtcdcijhfjiahkaaDoorRC4
set_option linter.unusedVariables false
namespace Go.Proofs.YtcdcijhfjiahkaaDoorR.K
open Go
/-- Can a command be? Both answer alike. -/
theorem right_both (op : List UInt8) (args : List (List UInt8)) (hl : args.length ≤ 4611686018427387904) (hs : Short args) : ∃ b, cmd_Right (op, args) = some b ∧ abacistref40_Right (op, args) = some b ∧ (b = true → args.length ≤ 28 ∧ op ∈ opsL) ∧ (b = true → ∃ r, cmd_Many op = some r ∧ r.1 ≤ (args.length : Int) ∧ (args.length : Int) ≤ r.2.1 ∧ tailOk r.2.2 args.length 0 args = true ∧ (r.2.2 = true → r.1 = r.2.1)) := by
  obtain ⟨r, m1, m2, r1, r2, r3, r4, r5⟩ := many_both op
  have one : ∀ c, cmd_Right_1 r.2.2 (args.length : Int) c op args = some (!c && tailOk r.2.2 args.length 0 args) := by
    intro c
    refine S.succ (cmd_Right_1_eq _ _ _ _ _) ?_
    cases c with
    | true => exact S.some _
    | false => simp only [cond_false]; exact right2 r.2.2 args hl hs args.length 0 (by omega)
  have one' : ∀ c, abacistref40_Right_1 r.2.2 (args.length : Int) c op args = some (!c && tailOk r.2.2 args.length 0 args) := by
    intro c
    refine S.succ (abacistref40_Right_1_eq _ _ _ _ _) ?_
    cases c with
    | true => exact S.some _
    | false => simp only [cond_false]; exact right2' r.2.2 op args hl hs args.length 0 (by omega)
  refine ⟨opsL.contains op && (!decide ((args.length : Int) < r.1) && (!decide ((args.length : Int) > r.2.1) && tailOk r.2.2 args.length 0 args)), ?_, ?_, ?_, ?_⟩
  · refine S.succ (cmd_Right_eq _) (S.bind m1 (S.bind ops_ev (S.bind (contains opsL op (by decide)) ?_)))
    cases opsL.contains op with
    | false => exact one true
    | true =>
      simp only [Bool.not_true, cond_false, Bool.true_and]
      cases decide ((args.length : Int) < r.1) with
      | true => exact one true
      | false => exact one _
  · have hw : abacistref40_word op = some (opsL.contains op) := S.succ (abacistref40_word_eq _) (S.bind ops_ev' (word1 opsL op (by decide) opsL.length 0 (by decide)))
    refine S.succ (abacistref40_Right_eq _) (S.bind m2 (S.bind hw ?_))
    cases opsL.contains op with
    | false => exact one' true
    | true =>
      simp only [Bool.not_true, cond_false, Bool.true_and]
      cases decide ((args.length : Int) < r.1) with
      | true => exact one' true
      | false => exact one' _
  · intro h
    simp only [Bool.and_eq_true, Bool.not_eq_true', decide_eq_false_iff_not] at h
    obtain ⟨h1, h2, h3, _⟩ := h
    exact ⟨by omega, by simpa using h1⟩
  · intro h
    simp only [Bool.and_eq_true, Bool.not_eq_true', decide_eq_false_iff_not] at h
    obtain ⟨h1, h2, h3, h4⟩ := h
    exact ⟨r, m1, by omega, by omega, h4, fun ht => (r5 ht).2.1⟩
end Go.Proofs.YtcdcijhfjiahkaaDoorR.K
