import Derived.Test.YtcdcijhfjiahkaaDoorRE1
import Derived.Test.YtcdcijhfjiahkaaDoorRKS
set_option linter.unusedVariables false
namespace Go.Proofs.YtcdcijhfjiahkaaDoorR.K
open Go
/-- Are all bytes of a text from one to 126? -/
def okB (lo : Int) (s : List UInt8) : Bool := s.all fun c => decide (lo ≤ (c.toNat : Int)) && decide ((c.toNat : Int) ≤ 126)
theorem within1 (lo : Int) (s : List UInt8) (hl : s.length ≤ 4611686018427387904) : ∀ n i : Nat, i + n = s.length → cmd_within_1 lo (s.map fun b => (b.toNat : Int)) (s.length : Int) i = some (okB lo (s.drop i))
  | 0, i, h => by
    refine S.succ (cmd_within_1_eq _ _ _ _) (S.of_false (decide_eq_false (by omega)) ?_)
    rw [List.drop_eq_nil_of_le (by omega)]
    exact S.some _
  | n + 1, i, h => by
    have hi : i < s.length := by omega
    refine S.succ (cmd_within_1_eq _ _ _ _) (S.of_true (decide_eq_true (by omega)) (S.of_true (by simp; omega) ?_))
    rw [List.drop_eq_getElem_cons hi]
    have hg : (s.map fun b => (b.toNat : Int)).getD (i : Int).toNat 0 = (s[i].toNat : Int) := by simp [List.getD, hi]
    rw [hg]
    have hw : IntKind.i64.wrap ((i : Int) + 1) = ((i + 1 : Nat) : Int) := wrap64 (by omega) (by omega)
    have two : ∀ c, cmd_within_2 lo (s.map fun b => (b.toNat : Int)) (s.length : Int) i c = some (!c && okB lo (s.drop (i + 1))) := by
      intro c
      refine S.succ (cmd_within_2_eq _ _ _ _ _) ?_
      cases c with
      | true => exact S.some _
      | false => simp only [cond_false, hw]; exact within1 lo s hl n (i + 1) (by omega)
    have e : okB lo (s[i] :: s.drop (i + 1)) = ((decide (lo ≤ (s[i].toNat : Int)) && decide ((s[i].toNat : Int) ≤ 126)) && okB lo (s.drop (i + 1))) := rfl
    rw [e]
    refine S.cond (fun hc => ?_) fun hc => ?_
    · have h1 : decide (lo ≤ (s[i].toNat : Int)) = false := by simp at hc ⊢; omega
      rw [h1]; exact two true
    · have h1 : decide (lo ≤ (s[i].toNat : Int)) = true := by simp at hc ⊢; omega
      have h2 : decide ((s[i].toNat : Int) ≤ 126) = !decide ((s[i].toNat : Int) > 126) := by
        by_cases h : (s[i].toNat : Int) ≤ 126 <;> simp [h] <;> omega
      rw [h1, h2]; exact two _
theorem within (lo : Int) (s : List UInt8) (hl : s.length ≤ 4611686018427387904) : cmd_within s lo = some (okB lo s) := by
  refine S.succ (cmd_within_eq _ _) ?_
  rw [List.length_map]
  exact within1 lo s hl s.length 0 (by omega)
theorem plain1 (lo : Int) (s : List UInt8) (hl : s.length ≤ 4611686018427387904) : ∀ n i : Nat, i + n = s.length → abacistref40_plain_1 s lo i = some (okB lo (s.drop i))
  | 0, i, h => by
    refine S.succ (abacistref40_plain_1_eq _ _ _) (S.of_false (decide_eq_false (by omega)) ?_)
    rw [List.drop_eq_nil_of_le (by omega)]
    exact S.some _
  | n + 1, i, h => by
    have hi : i < s.length := by omega
    refine S.succ (abacistref40_plain_1_eq _ _ _) (S.of_true (decide_eq_true (by omega)) (S.of_true (by simp; omega) ?_))
    rw [List.drop_eq_getElem_cons hi]
    have hg : s.getD (i : Int).toNat 0 = s[i] := by simp [List.getD, hi]
    rw [hg]
    have hw : IntKind.i64.wrap ((i : Int) + 1) = ((i + 1 : Nat) : Int) := wrap64 (by omega) (by omega)
    have two : ∀ c, abacistref40_plain_2 s lo i c = some (!c && okB lo (s.drop (i + 1))) := by
      intro c
      refine S.succ (abacistref40_plain_2_eq _ _ _ _) ?_
      cases c with
      | true => exact S.some _
      | false => simp only [cond_false, hw]; exact plain1 lo s hl n (i + 1) (by omega)
    have e : okB lo (s[i] :: s.drop (i + 1)) = ((decide (lo ≤ (s[i].toNat : Int)) && decide ((s[i].toNat : Int) ≤ 126)) && okB lo (s.drop (i + 1))) := rfl
    rw [e]
    refine S.cond (fun hc => ?_) fun hc => ?_
    · have h1 : decide (lo ≤ (s[i].toNat : Int)) = false := by simp at hc ⊢; omega
      rw [h1]; exact two true
    · have h1 : decide (lo ≤ (s[i].toNat : Int)) = true := by simp at hc ⊢; omega
      have h2 : decide ((s[i].toNat : Int) ≤ 126) = !decide ((s[i].toNat : Int) > 126) := by
        by_cases h : (s[i].toNat : Int) ≤ 126 <;> simp [h] <;> omega
      rw [h1, h2]; exact S.of_true (by simp; omega) (two _)
theorem plain (lo : Int) (s : List UInt8) (hl : s.length ≤ 4611686018427387904) : abacistref40_plain s lo = some (okB lo s) :=
  S.succ (abacistref40_plain_eq _ _) (plain1 lo s hl s.length 0 (by omega))
/-! ### the words -/
theorem index1 (l : List (List UInt8)) (x : List UInt8) (hl : l.length ≤ 4611686018427387904) : ∀ n i : Nat, i + n = l.length → ∃ r : Int, slices_Index_string_string_1 l x (l.length : Int) i = some r ∧ decide (r ≥ 0) = (l.drop i).contains x
  | 0, i, h => by
    refine ⟨-1, S.succ (slices_Index_string_string_1_eq _ _ _ _) (S.of_false (decide_eq_false (by omega)) (S.some _)), ?_⟩
    rw [List.drop_eq_nil_of_le (by omega)]; rfl
  | n + 1, i, h => by
    have hi : i < l.length := by omega
    have hg : l.getD (i : Int).toNat [] = l[i] := by simp [List.getD, hi]
    have hw : IntKind.i64.wrap ((i : Int) + 1) = ((i + 1 : Nat) : Int) := wrap64 (by omega) (by omega)
    rw [List.drop_eq_getElem_cons hi, List.contains_cons]
    by_cases hx : x = l[i]
    · refine ⟨i, S.succ (slices_Index_string_string_1_eq _ _ _ _) (S.of_true (decide_eq_true (by omega)) (S.of_true (by simp; omega) (S.of_true (by rw [hg]; exact decide_eq_true hx) (S.some _)))), ?_⟩
      simp [hx]
    · obtain ⟨r, h1, h2⟩ := index1 l x hl n (i + 1) (by omega)
      refine ⟨r, S.succ (slices_Index_string_string_1_eq _ _ _ _) (S.of_true (decide_eq_true (by omega)) (S.of_true (by simp; omega) (S.of_false (by rw [hg]; exact decide_eq_false hx) (by rw [hw]; exact h1)))), ?_⟩
      rw [h2]; simp [hx]
theorem contains (l : List (List UInt8)) (x : List UInt8) (hl : l.length ≤ 4611686018427387904) : slices_Contains_string_string l x = some (l.contains x) := by
  obtain ⟨r, h1, h2⟩ := index1 l x hl l.length 0 (by omega)
  refine S.succ (slices_Contains_string_string_eq _ _) (S.bind (S.succ (slices_Index_string_string_eq _ _) h1) ?_)
  rw [h2]; exact S.some _
theorem word1 (l : List (List UInt8)) (x : List UInt8) (hl : l.length ≤ 4611686018427387904) : ∀ n i : Nat, i + n = l.length → abacistref40_word_1 x l i = some ((l.drop i).contains x)
  | 0, i, h => by
    refine S.succ (abacistref40_word_1_eq _ _ _) (S.of_false (decide_eq_false (by omega)) ?_)
    rw [List.drop_eq_nil_of_le (by omega)]; exact S.some _
  | n + 1, i, h => by
    have hi : i < l.length := by omega
    have hg : l.getD (i : Int).toNat [] = l[i] := by simp [List.getD, hi]
    have hw : IntKind.i64.wrap ((i : Int) + 1) = ((i + 1 : Nat) : Int) := wrap64 (by omega) (by omega)
    rw [List.drop_eq_getElem_cons hi, List.contains_cons]
    refine S.succ (abacistref40_word_1_eq _ _ _) (S.of_true (decide_eq_true (by omega)) (S.of_true (by simp; omega) ?_))
    rw [hg]
    refine S.cond (fun hc => ?_) fun hc => ?_
    · have := of_decide_eq_true hc
      have e : (x == l[i]) = true := by simp [this]
      rw [e]; exact S.some _
    · have := of_decide_eq_false hc
      have e : (x == l[i]) = false := by simp; exact fun h => this h.symm
      rw [e, hw]; exact word1 l x hl n (i + 1) (by omega)
end Go.Proofs.YtcdcijhfjiahkaaDoorR.K
