import Derived.Test.YtcdcijhfjiahkaaDoorRC7
set_option linter.unusedVariables false
namespace Go.Proofs.YtcdcijhfjiahkaaDoorR.K
open Go
/-- What is ahead of the first blank, and behind it. -/
theorem cut1 (s : List UInt8) (hl : s.length ≤ 4611686018427387904) : ∀ n i : Nat, i + n = s.length → (∀ j (h : j < i) (h2 : j < s.length), s[j] ≠ 32) →
    abacistref40_cut_1 s i = some (cond (s.contains 32) (s.takeWhile (· ≠ 32), (s.dropWhile (· ≠ 32)).tail, true) (s, [], false))
  | 0, i, h, hj => by
    refine S.succ (abacistref40_cut_1_eq _ _) (S.of_false (decide_eq_false (by omega)) ?_)
    have : s.contains 32 = false := by
      simp only [List.contains_eq_mem, decide_eq_false_iff_not]
      intro hm
      obtain ⟨j, hj1, hj2⟩ := List.getElem_of_mem hm
      exact hj j (by omega) hj1 hj2
    rw [this]; exact S.some _
  | n + 1, i, h, hj => by
    have hi : i < s.length := by omega
    have hg : s.getD (i : Int).toNat 0 = s[i] := by simp [List.getD, hi]
    have hw : IntKind.i64.wrap ((i : Int) + 1) = ((i + 1 : Nat) : Int) := wrap64 (by omega) (by omega)
    refine S.succ (abacistref40_cut_1_eq _ _) (S.of_true (decide_eq_true (by omega)) (S.of_true (by simp; omega) ?_))
    rw [hg, hw]
    by_cases hx : s[i] = 32
    · refine S.of_true (by rw [hx]; rfl) (S.of_true (by simp; omega) (S.of_true (by simp; omega) ?_))
      have hc : s.contains 32 = true := by simp only [List.contains_eq_mem, decide_eq_true_eq]; rw [← hx]; exact List.getElem_mem hi
      have ht : s = s.take i ++ 32 :: s.drop (i + 1) := by rw [← hx, ← List.drop_eq_getElem_cons hi, List.take_append_drop]
      have hall : ∀ c ∈ s.take i, (decide (c ≠ 32)) = true := by
        intro c hc
        obtain ⟨j, hj1, hj2⟩ := List.getElem_of_mem hc
        have hji : j < i := by simp at hj1; omega
        rw [List.getElem_take] at hj2
        simp only [decide_eq_true_eq]
        rw [← hj2]; exact hj j hji (by omega)
      have h1 : s.takeWhile (· ≠ 32) = s.take i := by
        conv => lhs; rw [ht]
        rw [List.takeWhile_append_of_pos hall]; simp
      have h2 : (s.dropWhile (· ≠ 32)).tail = s.drop (i + 1) := by
        conv => lhs; rw [ht]
        rw [List.dropWhile_append_of_pos hall]; simp
      rw [hc, h1, h2]
      exact S.some _
    · refine S.of_false ?_ (cut1 s hl n (i + 1) (by omega) fun j h1 h2 => ?_)
      · refine decide_eq_false fun h => hx ?_
        have : s[i].toNat = 32 := by omega
        exact UInt8.toNat_inj.1 this
      · by_cases hji : j = i
        · subst hji; exact hx
        · exact hj j (by omega) h2
end Go.Proofs.YtcdcijhfjiahkaaDoorR.K
