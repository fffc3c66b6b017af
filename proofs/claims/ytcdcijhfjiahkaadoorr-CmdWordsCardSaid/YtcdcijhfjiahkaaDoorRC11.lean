import Derived.Test.YtcdcijhfjiahkaaDoorRC10
set_option linter.unusedVariables false
namespace Go.Proofs.YtcdcijhfjiahkaaDoorR.K
open Go
/-- What comes of the arguments of a line. -/
noncomputable def finR (s op : List UInt8) (args : List (List UInt8)) : Option ((List UInt8 × List (List UInt8)) × Int) :=
  (abacistref40_Right (op, args)).bind fun v1 => cond (!v1) (some (([], []), 10)) ((abacistref40_line (op, args)).bind fun v2 => cond (!decide (v2 = s)) (some (([], []), 10)) (some ((op, args), 0)))
theorem cutR (s : List UInt8) (hl : s.length ≤ 4611686018427387904) : abacistref40_cut s = some (cutS s) := (abacistref40_cut_eq _).trans (cut1 s hl s.length 0 (by omega) fun j h _ => absurd h (by omega))
theorem parse2_end (s rest op : List UInt8) (most : Int) (text : Bool) (args : List (List UInt8)) : abacistref40_Parse_2 s rest most text false args [] [] op = finR s op args := by
  rw [abacistref40_Parse_2_eq, cond_false]
  unfold finR
  simp only [abacistref40_Parse_4_eq, cond_true]
theorem parse1_no (s rest op : List UInt8) (most : Int) (text : Bool) (args : List (List UInt8)) : abacistref40_Parse_1 s rest false most text args [] [] op = finR s op args := by
  rw [abacistref40_Parse_1_eq, cond_false, parse2_end]
theorem room16 (n m : Nat) (h : n ≤ 1000000) (h' : m ≤ 1000000) : Nat.ble ((n + m) * 16) 140737488355328 = true := Nat.ble_eq_true_of_le (by omega)
theorem tail_len (s : List UInt8) (h : s.contains 32 = true) : (s.dropWhile (· ≠ 32)).tail.length < s.length := by
  have := congrArg List.length (cut_back s h)
  simp only [List.length_append, List.length_cons] at this
  omega
/-- All words of a line, up to forty. -/
theorem parse1_words (s op : List UInt8) (most : Int) : ∀ (d : Nat) (rest : List UInt8) (args : List (List UInt8)), rest.length ≤ 1000000 → args.length + d = 40 → 0 < d →
    abacistref40_Parse_1 s rest true most false args [] [] op = finR s op (args ++ (splitS rest).take d)
  | 0, _, _, _, _, h0 => absurd h0 (by omega)
  | d + 1, rest, args, hl, hd, _ => by
    have h40 : decide ((args.length : Int) < 40) = true := decide_eq_true (by omega)
    rw [abacistref40_Parse_1_eq, cond_true, h40, abacistref40_Parse_2_eq, cond_true, cond_false, abacistref40_Parse_3_eq, cond_false, cutR rest (by omega)]
    simp only [Option.bind_some]
    rw [room16 _ _ (by omega) (by simp), cond_true]
    cases hc : rest.contains 32 with
    | false =>
      rw [cutS, hc, cond_false, parse1_no, splitS_no rest hc]
      simp
    | true =>
      have ht := tail_len rest hc
      rw [cutS, hc, cond_true, splitS_yes rest hc]
      dsimp only
      by_cases h0 : d = 0
      · subst h0
        have h40' : decide (((args ++ [rest.takeWhile (· ≠ 32)]).length : Int) < 40) = false := decide_eq_false (by simp; omega)
        rw [abacistref40_Parse_1_eq, cond_true, h40', parse2_end]
        rfl
      · rw [parse1_words s op most d _ _ (by omega) (by simp; omega) (by omega), List.take_succ_cons, List.append_assoc]
        rfl
/-- Some words, and the rest as a text. -/
theorem parse1_text (s op : List UInt8) (n : Nat) (hn : n ≤ 20) (hn1 : 1 ≤ n) : ∀ (m : Nat) (rest : List UInt8) (args : List (List UInt8)), rest.length ≤ 1000000 → args.length + m + 1 = n →
    abacistref40_Parse_1 s rest true n true args [] [] op = finR s op (args ++ takeRest m rest)
  | 0, rest, args, hl, hd => by
    have h40 : decide ((args.length : Int) < 40) = true := decide_eq_true (by omega)
    have hw : IntKind.i64.wrap ((n : Int) - 1) = (n : Int) - 1 := wrap64 (by omega) (by omega)
    rw [abacistref40_Parse_1_eq, cond_true, h40, abacistref40_Parse_2_eq, cond_true, cond_true, hw, decide_eq_true (show (args.length : Int) = (n : Int) - 1 by omega), abacistref40_Parse_3_eq, cond_true,
      room16 _ _ (by omega) (by simp), cond_true]
    simp only [abacistref40_Parse_4_eq, cond_true, takeRest]
    rfl
  | m + 1, rest, args, hl, hd => by
    have h40 : decide ((args.length : Int) < 40) = true := decide_eq_true (by omega)
    have hw : IntKind.i64.wrap ((n : Int) - 1) = (n : Int) - 1 := wrap64 (by omega) (by omega)
    rw [abacistref40_Parse_1_eq, cond_true, h40, abacistref40_Parse_2_eq, cond_true, cond_true, hw, decide_eq_false (show ¬ (args.length : Int) = (n : Int) - 1 by omega), abacistref40_Parse_3_eq, cond_false, cutR rest (by omega)]
    simp only [Option.bind_some]
    rw [room16 _ _ (by omega) (by simp), cond_true, takeRest]
    cases hc : rest.contains 32 with
    | false => rw [cutS, hc, cond_false, parse1_no, cond_false]
    | true =>
      have ht := tail_len rest hc
      rw [cutS, hc, cond_true, cond_true]
      dsimp only
      rw [parse1_text s op n hn hn1 m _ _ (by omega) (by simp; omega), List.append_assoc]
      rfl
/-- The program's arguments. -/
theorem parted_0 (s : List UInt8) (hl : s.length ≤ 1000000) : cmd_parted s 0 = some (splitS s) := by
  rw [cmd_parted_eq, splitC s (by omega)]
  simp only [Option.bind_some]
  rw [show decide ((0 : Int) > 0) = false from rfl, cond_false, cmd_parted_1_eq, cond_false]
theorem splitS_len (s : List UInt8) : (splitS s).length ≤ s.length + 1 := by
  induction s with
  | nil => simp [splitS]
  | cons b s ih =>
    unfold splitS
    split
    · simp; omega
    · split
      · rename_i h; rw [h] at ih; simp at ih ⊢; omega
      · simp
theorem parted_n (s : List UInt8) (m : Nat) (hm : m ≤ 20) (hl : s.length ≤ 1000000) : cmd_parted s ((m : Int) + 1) = some (takeRest m s) := by
  have hw : IntKind.i64.wrap ((m : Int) + 1 - 1) = (m : Int) := by rw [wrap64 (by omega) (by omega)]; omega
  rw [cmd_parted_eq, splitC s (by omega)]
  simp only [Option.bind_some]
  rw [decide_eq_true (show (m : Int) + 1 > 0 by omega), cond_true, cmd_parted_1_eq, takeRest_split]
  by_cases h : (splitS s).length > m + 1
  · have hln := splitS_len s
    rw [decide_eq_true (show ((splitS s).length : Int) > (m : Int) + 1 by omega), cond_true, hw, if_pos h, Int.toNat_natCast]
    have c1 : (decide (0 ≤ (m : Int)) && decide ((m : Int) ≤ ((splitS s).length : Int))) = true := by simp; omega
    have c2 : (decide (0 ≤ (m : Int)) && (decide ((m : Int) ≤ (m : Int)) && decide ((m : Int) ≤ ((splitS s).length : Int)))) = true := by simp; omega
    rw [c1, cond_true]
    have hj : strings_Join (((splitS s).drop m).take ((splitS s).length - m)) [32] = some (Lib.join ((splitS s).drop m) [32]) := by
      rw [List.take_of_length_le (by simp)]
      refine (top_call ..).trans ?_
      show joinF ((splitS s).drop m, [32]) = _
      unfold joinF
      have hb : (Lib.join ((splitS s).drop m) [32]).length ≤ s.length := by
        have e1 := join_takeRest m s
        rw [takeRest_split, if_pos h] at e1
        have e2 := congrArg List.length e1.1
        cases ht : (splitS s).take m with
        | nil => rw [ht] at e2; simp only [List.nil_append, Lib.join_cons, Lib.joinTail, List.map_nil, List.flatten_nil, List.append_nil] at e2; omega
        | cons x l =>
          rw [ht] at e2
          simp only [List.cons_append, Lib.join_cons, Lib.joinTail, List.map_append, List.flatten_append, List.map_cons, List.map_nil, List.flatten_cons, List.flatten_nil, List.length_append, List.length_cons, List.length_nil] at e2
          omega
      rw [show (decide (((splitS s).drop m).length ≤ 140737488355328) && decide ((Lib.join ((splitS s).drop m) [32]).length ≤ 140737488355328)) = true by simp; omega]
      rfl
    rw [hj]
    simp only [Option.bind_some]
    rw [c2, cond_true, decide_true, cond_true, show (Nat.ble ((m - 0 + [Lib.join ((splitS s).drop m) [32]].length) * 16) 140737488355328 && (decide (m - 0 = 0) || decide (0 < [Lib.join ((splitS s).drop m) [32]].length))) = true by
      rw [room16 _ _ (by omega) (by simp)]; simp, cond_true, List.drop_zero, Nat.sub_zero]
  · rw [decide_eq_false (show ¬ ((splitS s).length : Int) > (m : Int) + 1 by omega), cond_false, if_neg h]
end Go.Proofs.YtcdcijhfjiahkaaDoorR.K
