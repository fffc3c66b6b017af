import Derived.Test.YtcdcijhfjiahkaaDoorRC11
set_option linter.unusedVariables false
namespace Go.Proofs.YtcdcijhfjiahkaaDoorR.K
open Go
/-- The arguments that a line has. -/
def argsOf (r : Int × Int × Bool) (s : List UInt8) : List (List UInt8) :=
  cond (s.contains 32) (cond r.2.2 (takeRest (r.2.1.toNat - 1) (cutS s).2.1) (splitS (cutS s).2.1)) []
theorem cutS_yes (s : List UInt8) (h : s.contains 32 = true) : cutS s = (s.takeWhile (· ≠ 32), (s.dropWhile (· ≠ 32)).tail, true) := by rw [cutS, h]; rfl
theorem cutS_no (s : List UInt8) (h : s.contains 32 = false) : cutS s = (s, [], false) := by rw [cutS, h]; rfl
theorem join_args (r : Int × Int × Bool) (s : List UInt8) : Lib.join ((cutS s).1 :: argsOf r s) [32] = s := by
  unfold argsOf
  cases hc : s.contains 32 with
  | false => rw [cutS_no s hc, cond_false, Lib.join_cons]; simp [Lib.joinTail]
  | true =>
    have hb := cut_back s hc
    rw [cutS_yes s hc, cond_true, Lib.join_cons]
    cases r.2.2 with
    | true => rw [cond_true, joinTail_ne _ (join_takeRest _ _).2, (join_takeRest _ _).1]; exact hb.symm
    | false => rw [cond_false, joinTail_ne _ (splitS_ne _), join_split]; exact hb.symm
theorem mem_join_len (l : List (List UInt8)) (a : List UInt8) (h : a ∈ l) : a.length ≤ (Lib.join l [32]).length := by
  cases l with
  | nil => cases h
  | cons x l =>
    rw [Lib.join_cons, List.length_append]
    rcases List.mem_cons.1 h with rfl | h
    · omega
    · have : a.length ≤ (Lib.joinTail [32] l).length := by
        induction l with
        | nil => cases h
        | cons y l ih =>
          simp only [Lib.joinTail, List.map_cons, List.flatten_cons, List.length_append, List.length_cons, List.length_nil] at ih ⊢
          rcases List.mem_cons.1 h with rfl | h
          · omega
          · have := ih (List.mem_cons_of_mem _ h) h; omega
      omega
theorem len_join (l : List (List UInt8)) : l.length ≤ (Lib.join l [32]).length + 1 := by
  cases l with
  | nil => simp
  | cons x l =>
    rw [Lib.join_cons, List.length_append, List.length_cons]
    have : l.length ≤ (Lib.joinTail [32] l).length := by
      induction l with
      | nil => simp
      | cons y l ih =>
        simp only [Lib.joinTail, List.map_cons, List.flatten_cons, List.length_append, List.length_cons, List.length_nil] at ih ⊢
        omega
    omega
/-- Parse: both answer alike. -/
theorem parse_both (s : List UInt8) (hl : s.length ≤ 1000000) : ∃ p, cmd_Parse s = some p ∧ abacistref40_Parse s = some p ∧ (p.2 = 0 → Lib.join (p.1.1 :: p.1.2) [32] = s ∧ cmd_Right p.1 = some true ∧ s.length ≤ 500) ∧
    (s.length ≤ 500 → (cutS s).1 ∈ opsL → ∀ r, cmd_Many (cutS s).1 = some r → cmd_Right ((cutS s).1, argsOf r s) = some true → p = (((cutS s).1, argsOf r s), 0)) ∧ p.1.2.length ≤ 40 ∧ (∀ a ∈ p.1.2, a.length ≤ 1000000) ∧ (p.2 ≠ 0 → p.1 = ([], [])) := by
  by_cases h5 : s.length ≤ 500
  · have c5 : decide ((s.length : Int) > 500) = false := decide_eq_false (by omega)
    have hcut : strings_Cut s [32] = some (cutS s) := cutC s (by omega)
    have hcut' := cutR s (by omega)
    have hw : abacistref40_word (cutS s).1 = some (opsL.contains (cutS s).1) := (abacistref40_word_eq _).trans (S.bind ops_ev' (word1 opsL _ (by decide) opsL.length 0 (by decide)))
    by_cases hop : (cutS s).1 ∈ opsL
    · have hco : opsL.contains (cutS s).1 = true := by simpa using hop
      obtain ⟨r, m1, m2, r1, r2, r3, r4, r5⟩ := many_both (cutS s).1
      -- the arguments, in the program and in the reference
      have hj := join_args r s
      have hls : Short (argsOf r s) := fun a ha => by
        have := mem_join_len _ a (List.mem_cons_of_mem (cutS s).1 ha)
        rw [hj] at this; omega
      have hll := len_join ((cutS s).1 :: argsOf r s)
      rw [hj, List.length_cons] at hll
      obtain ⟨b, b1, b2, b3, _⟩ := right_both (cutS s).1 (argsOf r s) (by omega) hls
      have hline := lineR (cutS s).1 (argsOf r s) (by omega) (by rw [hj]; omega)
      rw [hj] at hline
      have hfin : finR s (cutS s).1 (argsOf r s) = some (cond b (((cutS s).1, argsOf r s), 0) (([], []), 10)) := by
        unfold finR
        rw [b2, Option.bind_some]
        cases b with
        | false => rfl
        | true => rw [hline, Option.bind_some]; simp
      have hP : cmd_Parse s = some (cond b (((cutS s).1, argsOf r s), 0) (([], []), 10)) := by
        have hnot : ∀ (A : List (List UInt8)) (b : Bool), cond (!b) (some ((([] : List UInt8), ([] : List (List UInt8))), (10 : Int))) (some (((cutS s).1, A), (0 : Int))) = some (cond b (((cutS s).1, A), 0) (([], []), 10)) := fun A b => by cases b <;> rfl
        rw [cmd_Parse_eq, c5, cond_false, hcut, Option.bind_some, ops_ev, Option.bind_some, contains opsL _ (by decide), Option.bind_some, hco]
        simp only [Bool.not_true, cond_false]
        have ha : argsOf r s = cond (s.contains 32) (cond r.2.2 (takeRest (r.2.1.toNat - 1) (cutS s).2.1) (splitS (cutS s).2.1)) [] := rfl
        cases hc : s.contains 32 with
        | false =>
          rw [hc, cond_false] at ha
          rw [ha] at b1
          rw [show (cutS s).2.2 = false by rw [cutS_no s hc], cond_false, b1, Option.bind_some, ha]
          exact hnot [] b
        | true =>
          have ht := tail_len s hc
          have hrl : (cutS s).2.1.length ≤ 1000000 := by rw [cutS_yes s hc]; dsimp only; omega
          rw [hc, cond_true] at ha
          rw [show (cutS s).2.2 = true by rw [cutS_yes s hc], cond_true, m1, Option.bind_some]
          cases htx : r.2.2 with
          | true =>
            rw [htx, cond_true] at ha
            have h1 := (r5 htx).1
            have e : r.2.1 = ((r.2.1.toNat - 1 : Nat) : Int) + 1 := by omega
            have hpa : cmd_parted (cutS s).2.1 r.2.1 = some (argsOf r s) := by
              rw [ha]
              conv => lhs; rw [e]
              by_cases h20 : r.2.1.toNat - 1 ≤ 20
              · exact parted_n _ _ h20 hrl
              · -- a text's word has two or three arguments
                exfalso
                have hm := many_text (cutS s).1 r m1 htx
                omega
            rw [cond_true, cmd_Parse_1_eq, hpa, Option.bind_some, b1, Option.bind_some]
            exact hnot _ b
          | false =>
            rw [htx, cond_false] at ha
            rw [cond_false, cmd_Parse_1_eq, parted_0 _ hrl, Option.bind_some, ← ha, b1, Option.bind_some]
            exact hnot _ b
      have hQ : abacistref40_Parse s = some (cond b (((cutS s).1, argsOf r s), 0) (([], []), 10)) := by
        rw [abacistref40_Parse_eq, c5, cond_false, hcut', Option.bind_some, hw, Option.bind_some, hco]
        simp only [Bool.not_true, cond_false]
        rw [m2, Option.bind_some, ← hfin]
        have ha : argsOf r s = cond (s.contains 32) (cond r.2.2 (takeRest (r.2.1.toNat - 1) (cutS s).2.1) (splitS (cutS s).2.1)) [] := rfl
        cases hc : s.contains 32 with
        | false =>
          rw [hc, cond_false] at ha
          rw [show (cutS s).2.2 = false by rw [cutS_no s hc], parse1_no, ← ha]
        | true =>
          have ht := tail_len s hc
          have hrl : (cutS s).2.1.length ≤ 1000000 := by rw [cutS_yes s hc]; dsimp only; omega
          rw [hc, cond_true] at ha
          rw [show (cutS s).2.2 = true by rw [cutS_yes s hc]]
          cases htx : r.2.2 with
          | true =>
            rw [htx, cond_true] at ha
            have h1 := (r5 htx).1
            have hm := many_text (cutS s).1 r m1 htx
            have e : r.2.1 = ((r.2.1.toNat : Nat) : Int) := by omega
            rw [ha]
            conv => lhs; rw [e]
            exact parse1_text s _ r.2.1.toNat (by omega) (by omega) _ _ [] hrl (by simp; omega)
          | false =>
            rw [htx, cond_false] at ha
            rw [parse1_words s _ _ 40 _ [] hrl (by simp) (by omega), List.nil_append, ha]
            by_cases h40 : (splitS (cutS s).2.1).length ≤ 40
            · rw [List.take_of_length_le h40]
            · -- more than forty words: neither can be
              have hl1 : ((splitS (cutS s).2.1).take 40).length = 40 := by rw [List.length_take]; omega
              have hs1 : Short ((splitS (cutS s).2.1).take 40) := fun a hm => by
                have := hls a (by rw [ha]; exact List.mem_of_mem_take hm)
                exact this
              obtain ⟨b', _, b2', b3', _⟩ := right_both (cutS s).1 ((splitS (cutS s).2.1).take 40) (by omega) hs1
              have hb' : b' = false := by
                cases b' with
                | false => rfl
                | true => have := (b3' rfl).1; omega
              have hb : b = false := by
                cases b with
                | false => rfl
                | true => have := (b3 rfl).1; rw [ha] at this; omega
              rw [← ha] at b2' ⊢
              rw [hfin, hb]
              unfold finR
              rw [b2', hb']
              rfl
      refine ⟨_, hP, hQ, ?_, ?_, ?_, ?_, ?_⟩
      · intro h0
        cases b with
        | false => simp at h0
        | true => exact ⟨hj, b1, h5⟩
      · intro _ _ r' hr' hR
        rw [m1] at hr'
        obtain rfl := Option.some.inj hr'
        rw [b1] at hR
        obtain rfl := Option.some.inj hR
        rfl
      · cases b with
        | false => simp
        | true => have := (b3 rfl).1; dsimp only [cond_true]; omega
      · cases b with
        | false => simp
        | true =>
          intro a ha
          dsimp only [cond_true] at ha
          have h1 := mem_join_len _ a (List.mem_cons_of_mem (cutS s).1 ha)
          rw [hj] at h1
          omega
      · intro h0
        cases b with
        | false => rfl
        | true => exact absurd rfl h0
    · have hco : opsL.contains (cutS s).1 = false := by simpa using hop
      refine ⟨(([], []), 11), ?_, ?_, fun h => by simp at h, fun _ h => absurd h hop, by simp, by simp, fun _ => rfl⟩
      · rw [cmd_Parse_eq, c5, cond_false, hcut, Option.bind_some, ops_ev, Option.bind_some, contains opsL _ (by decide), Option.bind_some, hco]
        rfl
      · rw [abacistref40_Parse_eq, c5, cond_false, hcut', Option.bind_some, hw, Option.bind_some, hco]
        rfl
  · have c5 : decide ((s.length : Int) > 500) = true := decide_eq_true (by omega)
    refine ⟨(([], []), 9), ?_, ?_, fun h => by simp at h, fun h => absurd h h5, by simp, by simp, fun _ => rfl⟩
    · rw [cmd_Parse_eq, c5]; rfl
    · rw [abacistref40_Parse_eq, c5]; rfl
end Go.Proofs.YtcdcijhfjiahkaaDoorR.K
