import Derived.Test.YtcdcijhfjiahkaaDoorRC9
import Derived.Lib.SplitLaws
import Derived.Lib.Join
set_option linter.unusedVariables false
namespace Go.Proofs.YtcdcijhfjiahkaaDoorR.K
open Go
/-- A text between its blanks. -/
def splitS : List UInt8 → List (List UInt8)
  | [] => [[]]
  | b :: s => if b = 32 then [] :: splitS s else (match splitS s with
    | w :: ws => (b :: w) :: ws
    | [] => [[b]])
theorem splitS_ne (s : List UInt8) : splitS s ≠ [] := by
  cases s with
  | nil => simp [splitS]
  | cons b s =>
    unfold splitS
    split
    · simp
    · split <;> simp
theorem splitS_no : ∀ s : List UInt8, s.contains 32 = false → splitS s = [s]
  | [], _ => rfl
  | b :: s, h => by
    simp only [List.contains_cons, Bool.or_eq_false_iff] at h
    have hb : ¬ b = 32 := fun e => by subst e; simp at h
    unfold splitS
    rw [if_neg hb, splitS_no s h.2]
theorem splitS_yes : ∀ s : List UInt8, s.contains 32 = true → splitS s = s.takeWhile (· ≠ 32) :: splitS (s.dropWhile (· ≠ 32)).tail
  | [], h => by simp at h
  | b :: s, h => by
    by_cases hb : b = 32
    · subst hb; simp [splitS]
    · have h' : s.contains 32 = true := by
        simp only [List.contains_cons, Bool.or_eq_true] at h
        rcases h with h | h
        · exact absurd (by simpa using h : (32 : UInt8) = b).symm hb
        · exact h
      rw [splitS, if_neg hb, splitS_yes s h']
      simp [hb]
theorem cut_back (s : List UInt8) (h : s.contains 32 = true) : s = s.takeWhile (· ≠ 32) ++ 32 :: (s.dropWhile (· ≠ 32)).tail := by
  induction s with
  | nil => simp at h
  | cons b s ih =>
    by_cases hb : b = 32
    · subst hb; simp
    · have h' : s.contains 32 = true := by
        simp only [List.contains_cons, Bool.or_eq_true] at h
        rcases h with h | h
        · exact absurd (by simpa using h : (32 : UInt8) = b).symm hb
        · exact h
      have := ih h'
      simp only [ne_eq, hb, not_false_eq_true, decide_true, List.takeWhile_cons_of_pos, List.dropWhile_cons_of_pos, List.cons_append, List.cons.injEq, true_and]
      exact this
theorem joinTail_ne (l : List (List UInt8)) (h : l ≠ []) : Lib.joinTail [32] l = 32 :: Lib.join l [32] := by
  cases l with
  | nil => exact absurd rfl h
  | cons x l => rw [Lib.join_cons]; simp [Lib.joinTail]
theorem join_split (s : List UInt8) : Lib.join (splitS s) [32] = s := by
  suffices H : ∀ n s, s.length ≤ n → Lib.join (splitS s) [32] = s from H _ s (Nat.le_refl _)
  intro n
  induction n with
  | zero => intro s h; obtain rfl : s = [] := List.eq_nil_of_length_eq_zero (by omega); rfl
  | succ n ih =>
    intro s h
    cases hc : s.contains 32 with
    | false => rw [splitS_no s hc, Lib.join_cons]; simp [Lib.joinTail]
    | true =>
      have hb := cut_back s hc
      rw [splitS_yes s hc, Lib.join_cons, joinTail_ne _ (splitS_ne _), ih _ (by
        have := congrArg List.length hb
        simp only [List.length_append, List.length_cons] at this
        omega)]
      exact hb.symm
theorem count_cut (s : List UInt8) (h : s.contains 32 = true) : s.count 32 = (s.dropWhile (· ≠ 32)).tail.count 32 + 1 := by
  conv => lhs; rw [cut_back s h]
  rw [List.count_append, List.count_cons]
  have : (s.takeWhile (· ≠ 32)).count 32 = 0 := by
    rw [List.count_eq_zero]
    intro hm
    have := List.all_takeWhile (p := fun x : UInt8 => decide (x ≠ 32)) (l := s)
    rw [List.all_eq_true] at this
    simpa using this _ hm
  rw [this]; simp
theorem splitK_one : ∀ (n : Nat) (s : List UInt8), s.count 32 = n → Lib.splitK [32] 0 n s = splitS s
  | 0, s, h => by
    have : s.contains 32 = false := by
      rw [List.count_eq_zero] at h
      simpa using h
    rw [splitS_no s this]; rfl
  | n + 1, s, h => by
    have hc : s.contains 32 = true := by
      have : 0 < s.count 32 := by omega
      rw [List.count_pos_iff] at this
      simpa using this
    rcases indexByte_spec s with ⟨h1, _⟩ | ⟨_, h2, h3, h4⟩
    · rw [hc] at h1; cases h1
    · have hi : Lib.index s [32] = ((s.takeWhile (· ≠ 32)).length : Int) := by rw [Lib.index_one]; exact h2
      have hne : ¬ (((s.takeWhile (· ≠ 32)).length : Int) == -1) = true := by simp
      rw [Lib.splitK, hi, if_neg hne, Int.toNat_natCast, Nat.add_zero, h3]
      have e : s.drop ((s.takeWhile (· ≠ 32)).length + ([32] : List UInt8).length) = (s.dropWhile (· ≠ 32)).tail := h4
      rw [e, splitS_yes s hc, splitK_one n _ (by have := count_cut s hc; omega)]
theorem splitC (s : List UInt8) (hl : s.length < 4294967281) : strings_Split s [32] = some (splitS s) := by
  refine (top_call ..).trans ?_
  show splitF (s, [32]) = _
  unfold splitF
  rw [show (decide (s.length < 4294967281) && decide (1 ≤ ([32] : List UInt8).length)) = true by simp; omega]
  simp only [cond_true]
  congr 1
  rw [Lib.splitB_data]
  show Lib.splitK [32] 0 (Lib.count s [32]) s = _
  rw [Lib.count_one]
  exact splitK_one _ s rfl
/-- So many words, and the rest. -/
def takeRest : Nat → List UInt8 → List (List UInt8)
  | 0, s => [s]
  | m + 1, s => cond (s.contains 32) (s.takeWhile (· ≠ 32) :: takeRest m (s.dropWhile (· ≠ 32)).tail) [s]
theorem takeRest_split : ∀ (m : Nat) (s : List UInt8), takeRest m s = if (splitS s).length > m + 1 then (splitS s).take m ++ [Lib.join ((splitS s).drop m) [32]] else splitS s
  | 0, s => by
    have hj := join_split s
    rw [takeRest]
    split
    · simp [hj]
    · rename_i h
      cases hl : splitS s with
      | nil => exact absurd hl (splitS_ne s)
      | cons x l =>
        rw [hl] at h hj
        have : l = [] := List.eq_nil_of_length_eq_zero (by simp at h; simpa using h)
        subst this
        rw [Lib.join_cons] at hj
        simp only [Lib.joinTail, List.map_nil, List.flatten_nil, List.append_nil] at hj
        rw [hj]
  | m + 1, s => by
    rw [takeRest]
    cases hc : s.contains 32 with
    | false => rw [splitS_no s hc]; simp
    | true =>
      rw [splitS_yes s hc, cond_true, takeRest_split m]
      by_cases h : (splitS (s.dropWhile (· ≠ 32)).tail).length > m + 1
      · rw [if_pos h, if_pos (by simp only [List.length_cons]; omega)]; rfl
      · rw [if_neg h, if_neg (by simp only [List.length_cons]; omega)]
theorem join_takeRest : ∀ (m : Nat) (s : List UInt8), Lib.join (takeRest m s) [32] = s ∧ takeRest m s ≠ []
  | 0, s => by rw [takeRest, Lib.join_cons]; simp [Lib.joinTail]
  | m + 1, s => by
    rw [takeRest]
    cases hc : s.contains 32 with
    | false => rw [cond_false, Lib.join_cons]; simp [Lib.joinTail]
    | true =>
      rw [cond_true, Lib.join_cons, joinTail_ne _ (join_takeRest m _).2, (join_takeRest m _).1]
      exact ⟨(cut_back s hc).symm, by simp⟩
end Go.Proofs.YtcdcijhfjiahkaaDoorR.K
