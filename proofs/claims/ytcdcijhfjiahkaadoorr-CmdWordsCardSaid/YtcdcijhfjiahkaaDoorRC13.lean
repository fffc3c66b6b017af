import Derived.Test.YtcdcijhfjiahkaaDoorRC12
set_option linter.unusedVariables false
namespace Go.Proofs.YtcdcijhfjiahkaaDoorR.K
open Go
theorem cut_at (op X : List UInt8) (h : op.contains 32 = false) : cutS (op ++ 32 :: X) = (op, X, true) := by
  have hc : (op ++ 32 :: X).contains 32 = true := by simp
  have hall : ∀ c ∈ op, (decide (c ≠ 32)) = true := by
    intro c hm
    simp only [decide_eq_true_eq]
    intro e; subst e
    simp [hm] at h
  rw [cutS_yes _ hc, List.takeWhile_append_of_pos hall, List.dropWhile_append_of_pos hall]
  simp
theorem ops_no (op : List UInt8) (h : op ∈ opsL) : op.contains 32 = false := by
  have : ∀ x ∈ opsL, x.contains 32 = false := by decide
  exact this op h
theorem ok33_no (a : List UInt8) (h : okB 33 a = true) : a.contains 32 = false := by
  simp only [List.contains_eq_mem, decide_eq_false_iff_not]
  intro hm
  unfold okB at h
  rw [List.all_eq_true] at h
  have := h 32 hm
  simp at this
theorem split_join : ∀ (l : List (List UInt8)) (a : List UInt8), (∀ x ∈ a :: l, x.contains 32 = false) → splitS (Lib.join (a :: l) [32]) = a :: l
  | [], a, h => by
    rw [Lib.join_cons]
    simp only [Lib.joinTail, List.map_nil, List.flatten_nil, List.append_nil]
    exact splitS_no a (h a (by simp))
  | b :: l, a, h => by
    rw [Lib.join_cons, joinTail_ne _ (by simp)]
    have hc := cut_at a (Lib.join (b :: l) [32]) (h a (by simp))
    have hy : (a ++ 32 :: Lib.join (b :: l) [32]).contains 32 = true := by simp
    rw [cutS_yes _ hy] at hc
    rw [splitS_yes _ hy]
    simp only [Prod.mk.injEq, and_true] at hc
    rw [hc.1, hc.2, split_join l b (fun x hx => h x (List.mem_cons_of_mem _ hx))]
theorem take_join (n : Nat) : ∀ (l : List (List UInt8)) (a : List UInt8) (i : Nat), i + l.length + 1 = n → tailOk true n i (a :: l) = true → takeRest l.length (Lib.join (a :: l) [32]) = a :: l
  | [], a, i, hi, h => by
    rw [Lib.join_cons]
    simp [takeRest, Lib.joinTail]
  | b :: l, a, i, hi, h => by
    rw [Lib.join_cons, joinTail_ne _ (by simp)]
    simp only [List.length_cons] at hi ⊢
    unfold tailOk at h
    rw [Bool.and_eq_true] at h
    have hne : decide ((i : Int) = (n : Int) - 1) = false := decide_eq_false (by omega)
    rw [hne] at h
    simp only [Bool.and_false, cond_false, Bool.and_eq_true] at h
    have hc := cut_at a (Lib.join (b :: l) [32]) (ok33_no a h.1.2)
    have hy : (a ++ 32 :: Lib.join (b :: l) [32]).contains 32 = true := by simp
    rw [cutS_yes _ hy] at hc
    simp only [Prod.mk.injEq, and_true] at hc
    rw [takeRest, hy, cond_true, hc.1, hc.2, take_join n l b (i + 1) (by omega) h.2]
theorem tail_no (n : Int) : ∀ (l : List (List UInt8)) (i : Nat), tailOk false n i l = true → ∀ x ∈ l, x.contains 32 = false
  | [], _, _, x, hx => by cases hx
  | a :: l, i, h, x, hx => by
    unfold tailOk at h
    simp only [Bool.false_and, cond_false, Bool.and_eq_true] at h
    rcases List.mem_cons.1 hx with rfl | hx
    · exact ok33_no x h.1.2
    · exact tail_no n l (i + 1) h.2 x hx
/-- A command's line, read again. -/
theorem args_back (op : List UInt8) (args : List (List UInt8)) (hop : op ∈ opsL) (r : Int × Int × Bool) (h1 : r.1 ≤ (args.length : Int)) (h2 : (args.length : Int) ≤ r.2.1) (h3 : tailOk r.2.2 args.length 0 args = true) (h4 : r.2.2 = true → r.1 = r.2.1) (h5 : r.2.2 = true → 1 ≤ r.2.1) :
    (cutS (Lib.join (op :: args) [32])).1 = op ∧ argsOf r (Lib.join (op :: args) [32]) = args := by
  have hno := ops_no op hop
  cases args with
  | nil =>
    have e : Lib.join [op] [32] = op := by rw [Lib.join_cons]; simp [Lib.joinTail]
    rw [e, argsOf, hno, cutS_no op hno]
    exact ⟨rfl, rfl⟩
  | cons a l =>
    rw [Lib.join_cons, joinTail_ne _ (by simp), argsOf, cut_at op _ hno]
    refine ⟨rfl, ?_⟩
    have hy : (op ++ 32 :: Lib.join (a :: l) [32]).contains 32 = true := by simp
    rw [hy, cond_true]
    cases ht : r.2.2 with
    | false =>
      rw [cond_false]
      rw [ht] at h3
      exact split_join l a (tail_no _ _ _ h3)
    | true =>
      rw [cond_true]
      rw [ht] at h3
      have e1 := h4 ht
      have e2 := h5 ht
      simp only [List.length_cons] at h1 h2 h3
      have e : r.2.1.toNat - 1 = l.length := by omega
      dsimp only
      rw [e]
      exact take_join (l.length + 1) l a 0 (by omega) h3
theorem light2 (op : List UInt8) (args : List (List UInt8)) (hl : args.length ≤ 9223372036854775807) : ∀ n i : Nat, i + n = args.length → abacistlaw40_light_2 i op args = some ((args.drop i).all fun a => decide (a.length ≤ 700))
  | 0, i, h => by
    refine S.succ (abacistlaw40_light_2_eq _ _ _) (S.of_false (decide_eq_false (by omega)) ?_)
    rw [List.drop_eq_nil_of_le (by omega)]
    exact S.some _
  | n + 1, i, h => by
    have hi : i < args.length := by omega
    refine S.succ (abacistlaw40_light_2_eq _ _ _) (S.of_true (decide_eq_true (by omega)) (S.of_true (by simp; omega) ?_))
    rw [List.drop_eq_getElem_cons hi, List.all_cons]
    have hg : args.getD (i : Int).toNat [] = args[i] := by simp [List.getD, hi]
    rw [hg]
    refine S.cond (fun hc => ?_) fun hc => ?_
    · have : decide (args[i].length ≤ 700) = false := by simp at hc ⊢; omega
      rw [this]; exact S.some _
    · have : decide (args[i].length ≤ 700) = true := by simp at hc ⊢; omega
      rw [this, wrap64 (by omega) (by omega)]
      exact light2 op args hl n (i + 1) (by omega)
theorem light (op : List UInt8) (args : List (List UInt8)) (hl : args.length ≤ 9223372036854775807) : ∃ b, abacistlaw40_light (op, args) = some b ∧ (b = true → op.length ≤ 100 ∧ args.length ≤ 60 ∧ ∀ a ∈ args, a.length ≤ 700) := by
  rw [abacistlaw40_light_eq]
  by_cases h1 : op.length ≤ 100
  · rw [decide_eq_false (show ¬ (op.length : Int) > 100 by omega), cond_false, abacistlaw40_light_1_eq]
    by_cases h2 : args.length ≤ 60
    · rw [decide_eq_false (show ¬ (args.length : Int) > 60 by omega), cond_false]
      refine ⟨_, light2 op args hl args.length 0 (by omega), fun h => ⟨h1, h2, fun a ha => ?_⟩⟩
      rw [List.drop_zero, List.all_eq_true] at h
      simpa using h a ha
    · rw [decide_eq_true (show (args.length : Int) > 60 by omega), cond_true]
      exact ⟨false, rfl, fun h => by cases h⟩
  · rw [decide_eq_true (show (op.length : Int) > 100 by omega), cond_true, abacistlaw40_light_1_eq, cond_true]
    exact ⟨false, rfl, fun h => by cases h⟩
theorem tail_len_le (l : List (List UInt8)) (k : Nat) (h : ∀ a ∈ l, a.length ≤ k) : (Lib.joinTail [32] l).length ≤ l.length * (k + 1) := by
  induction l with
  | nil => simp [Lib.joinTail]
  | cons a l ih =>
    have h1 := h a (by simp)
    have h2 := ih (fun x hx => h x (List.mem_cons_of_mem _ hx))
    simp only [Lib.joinTail, List.map_cons, List.flatten_cons, List.length_append, List.length_cons, List.length_nil] at h2 ⊢
    rw [Nat.add_mul]
    omega
theorem CmdLines' (op : List UInt8) (args : List (List UInt8)) (hl : args.length ≤ 9223372036854775807) : abacistlaw40_CmdLines (op, args) = some true := by
  obtain ⟨b, hb, hb'⟩ := light op args hl
  rw [abacistlaw40_CmdLines_eq, hb, Option.bind_some]
  cases b with
  | false => rw [Bool.not_false, cond_true, known_ev]; rfl
  | true =>
    obtain ⟨l1, l2, l3⟩ := hb' rfl
    have ht := tail_len_le args 700 l3
    have hs : Short args := fun a ha => by have := l3 a ha; omega
    have hj : (Lib.join (op :: args) [32]).length ≤ 1000000000000 := by rw [Lib.join_cons, List.length_append]; omega
    obtain ⟨b, r, b1, b2, b3, r1, r2, r3, r4⟩ := line_both op args (by omega) hs hj
    simp only [Bool.not_true, cond_false, abacistlaw40_given_eq, Option.bind_some, r1, r2, b1, b2, decide_true, beq_self_eq_true]
    rw [abacistlaw40_CmdLines_1_eq, cond_false]
    by_cases h0 : r.2 = 0
    · obtain ⟨hbt, e1, e2⟩ := r3 h0
      rw [decide_eq_true h0, Bool.not_true, cond_false]
      obtain ⟨p, p1, p2, p3, p4, p5, p6, p7⟩ := parse_both r.1 (by omega)
      obtain ⟨b', c1, c2, c3, c4⟩ := right_both op args (by omega) hs
      have hbb : b' = true := by rw [c1] at b1; exact (Option.some.inj b1).trans hbt
      subst hbb
      obtain ⟨q, q1, q2, q3, q4, q5⟩ := c4 rfl
      have hop := (c3 rfl).2
      obtain ⟨r', m1, _, _, _, _, _, m5⟩ := many_both op
      rw [m1] at q1
      obtain rfl := Option.some.inj q1
      obtain ⟨a1, a2⟩ := args_back op args hop r' q2 q3 q4 q5 (fun h => (m5 h).1)
      rw [← e1] at a1 a2
      have hp := p4 e2 (by rw [a1]; exact hop) r' (by rw [a1]; exact m1) (by rw [a1, a2]; exact c1)
      rw [p1, Option.bind_some, abacistlaw40_taken_eq, Option.bind_some]
      have hsame : abacistref40_Same (op, args) (op, args) = some true := by have h := same (op, args) (op, args) (by show args.length ≤ _; omega); rwa [decide_eq_true rfl] at h
      rw [hp, a1, a2]
      dsimp only
      rw [hsame, Option.bind_some, cond_true, decide_eq_true rfl, cond_true, known_ev]
      rfl
    · rw [decide_eq_false h0, Bool.not_false, cond_true, known_ev]; rfl
theorem CmdParse' (s : List UInt8) : abacistlaw40_CmdParse s = some true := by
  rw [abacistlaw40_CmdParse_eq]
  by_cases h : s.length ≤ 1000
  · rw [decide_eq_false (show ¬ (s.length : Int) > 1000 by omega), cond_false]
    obtain ⟨p, p1, p2, p3, p4, p5, p6, p7⟩ := parse_both s (by omega)
    obtain ⟨⟨op, args⟩, e⟩ := p
    dsimp only at p3 p5 p6
    have hsame : abacistref40_Same (op, args) (op, args) = some true := by have h := same (op, args) (op, args) (by show args.length ≤ _; omega); rwa [decide_eq_true rfl] at h
    rw [p1, p2]
    simp only [Option.bind_some, abacistlaw40_taken_eq]
    rw [hsame]
    simp only [decide_true, Option.bind_some, Bool.not_true, cond_false]
    rw [abacistlaw40_CmdParse_1_eq, cond_false]
    have ht := tail_len_le args 1000000 p6
    have hs : Short args := fun a ha => by have := p6 a ha; omega
    by_cases h0 : e = 0
    · obtain ⟨j1, j2, j3⟩ := p3 h0
      obtain ⟨b, r, b1, b2, b3, r1, r2, r3, r4⟩ := line_both op args (by omega) hs (by rw [j1]; omega)
      have hbt : b = true := by
        have : cmd_Right (op, args) = some true := j2
        rw [b1] at this; exact Option.some.inj this
      have hr := r4 hbt (by rw [j1]; exact j3)
      rw [r1, hr, j1, h0]
      simp only [Option.bind_some, decide_true, Bool.not_true, cond_false, cond_true, known_ev]
    · -- no command: its line does not matter
      have hline : ∃ t, cmd_Line (op, args) = some t := by
        obtain ⟨rfl, rfl⟩ := Prod.mk.inj (p7 h0)
        obtain ⟨b, r, _, _, _, r1, _⟩ := line_both [] [] (by simp) (fun a ha => by cases ha) (by simp [Lib.join_cons, Lib.joinTail])
        exact ⟨r, r1⟩
      obtain ⟨t, ht⟩ := hline
      rw [ht, Option.bind_some, decide_eq_false h0, Bool.not_false, cond_true, known_ev]
      rfl
  · rw [decide_eq_true (show (s.length : Int) > 1000 by omega), cond_true, known_ev]; rfl
theorem CmdWords' (op : List UInt8) (i : Int) : abacistlaw40_CmdWords op i = some true := by
  obtain ⟨r, m1, m2, _⟩ := many_both op
  rw [abacistlaw40_CmdWords_eq, m1, m2, ops_ev, ops_ev']
  simp only [Option.bind_some, decide_true, Bool.not_true, cond_false, beq_self_eq_true]
  rw [abacistlaw40_CmdWords_1_eq, cond_false, known_ev]
  by_cases h1 : i < 0
  · rw [decide_eq_true h1]; rfl
  · rw [decide_eq_false h1, cond_false]
    by_cases h2 : i ≥ (opsL.length : Int)
    · rw [decide_eq_true h2]; rfl
    · have h3 : (decide (0 ≤ i) && decide (i < (opsL.length : Int))) = true := by simp; omega
      rw [decide_eq_false h2, cond_false, h3]
      simp
end Go.Proofs.YtcdcijhfjiahkaaDoorR.K
