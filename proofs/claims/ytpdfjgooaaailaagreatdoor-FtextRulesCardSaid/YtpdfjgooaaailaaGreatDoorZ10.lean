/- Part 10 of the proof: the machine, the tables and the pure laws that the last text joins. -/
import Derived.Test.YtpdfjgooaaailaaGreatDoorZ9
import Derived.Test.YtpdfjgooaaailaaGreatDoorZ5
import Derived.Test.YtpdfjgooaaailaaGreatDoorZ7
set_option linter.unusedVariables false
set_option linter.unusedSimpArgs false
namespace Go.Proofs.YtpdfjgooaaailaaGreatDoor.D
open Go Go.Proofs.YtpdfjgooaaailaaGreatDoor.K
open Go.Proofs.YtpdfjgooaaailaaGreatDoor.P (nat val divmod small val_nat nat_zero nat_eq_nil nat_val_length nat_length_le len_mono val_lt nat_inj nat_one wS mod_u64 sgnv)
theorem mod_i64 (n : Int) : IntKind.i64.wrap n = (n + 9223372036854775808) % 18446744073709551616 - 9223372036854775808 := by
  simp [IntKind.wrap, IntKind.bits, IntKind.signed]
  omega
def truncR (r : Rt) : Rt := ((well r).1 && !decide (val (well r).2.1 / val (well r).2.2 = 0), nat (val (well r).2.1 / val (well r).2.2), [1])
theorem Fm.quo {s : Bool} {n d : Nat} (h : Fm s n d) : Fm (s && !decide (n / d = 0)) (n / d) 1 := by
  refine ⟨Nat.le_trans (len_mono (Nat.div_le_self n d)) h.nl, by rw [nat_one]; simp, by omega, Nat.gcd_one_right _, fun hq => by rw [hq]; simp⟩
theorem xRdWell (r : Rt) : round_well r = some (well r) := by
  rw [round_well_eq, xRight, Option.bind_some, xROf 0 (by omega) (by omega), Option.bind_some, well, show ofI 0 = (false, [], [1]) by unfold ofI; rw [Int.natAbs_zero, nat_zero]; rfl]
  cases right r <;> rfl
theorem divmod_pos {a b : Nat} (h : 0 < b) : divmod a b = (nat (a / b), nat (a % b), 0) := by unfold Go.Proofs.YtpdfjgooaaailaaGreatDoor.P.divmod; rw [if_neg (by omega)]
theorem xTrunc (r : Rt) : round_Trunc r = some (truncR r) := by
  obtain ⟨s, n, d, e, f⟩ := well_form r
  have h1 := f.nl
  have h2 := f.dl
  have hq := f.quo
  have hql := hq.nl
  rw [round_Trunc_eq, xRdWell, Option.bind_some, truncR, e]
  simp only [val_nat]
  rw [xDiv _ _ (by omega) (by omega), Option.bind_some, val_nat, val_nat, divmod_pos f.pos]
  simp only [decide_true, Bool.not_true, cond_false]
  rw [xWMake _ _ (by omega), Option.bind_some, val_nat, round_made_eq, xWOf 1 (by omega) (by omega), Option.bind_some]
  have := make_form hq
  rw [nat_one] at this
  show ((rat_Make (s && !decide (n / d = 0), nat (n / d)) (false, nat 1)).bind _).bind _ = _
  rw [nat_one, xMake _ _ (by simp only; omega) (by simp), this]; rfl
def smallV (s : Bool) (n : Nat) : Int × Bool := cond s (cond (decide (n ≤ 9223372036854775808)) (-(n : Int), true) (0, false)) (cond (decide (n < 9223372036854775808)) ((n : Int), true) (0, false))
def smallR (r : Rt) : Int × Bool := cond (decide ((well r).2.2 = [1])) (smallV (well r).1 (val (well r).2.1)) (0, false)
theorem xSmallN (s : List UInt8) (h : s.length ≤ 1000000000) : nat_Small s = some (small (val s)) := by
  refine (top_call ..).trans ?_
  show Go.Proofs.YtpdfjgooaaailaaGreatDoor.Q.smallQ s = _
  unfold Go.Proofs.YtpdfjgooaaailaaGreatDoor.Q.smallQ
  rw [ok_le h, cond_true]
theorem xSmallW {s : Bool} {n d : Nat} (f : Fm s n d) : whole_Small (s, nat n) = some (smallV s n) := by
  have h1 := f.nl
  have e2 : ∀ a, whole_Small_2 a true = some (0, false) := fun a => by rw [whole_Small_2_eq, cond_true]
  have e2' : ∀ a, whole_Small_2 a false = some (IntKind.i64.wrap a, true) := fun a => by rw [whole_Small_2_eq, cond_false]
  rw [whole_Small_eq, xWWell _ (by simp only; omega), Option.bind_some]
  simp only [val_nat, mkW_form f]
  rw [xSmallN _ (by omega), Option.bind_some, val_nat]
  unfold Go.Proofs.YtpdfjgooaaailaaGreatDoor.P.small
  by_cases h64 : n < 18446744073709551616
  · rw [if_pos h64]
    have hr : ∀ x : Int, -9223372036854775808 ≤ IntKind.i64.wrap x ∧ IntKind.i64.wrap x ≤ 9223372036854775807 := fun x => by rw [mod_i64]; omega
    have s1 : ∀ (a : Int), whole_Small_1 a true (s, nat n) = cond ((decide (IntKind.i64.wrap a < 0) == s) && decide ((IntKind.i64.wrap a).natAbs = n)) (some (IntKind.i64.wrap a, true)) (some (0, false)) := fun a => by
      rw [whole_Small_1_eq, Bool.not_true, cond_false, xWOf _ (hr a).1 (hr a).2, Option.bind_some]
      simp only [nat_inj]
      cases (decide (IntKind.i64.wrap a < 0) == s) && decide ((IntKind.i64.wrap a).natAbs = n)
      · exact e2 a
      · exact e2' a
    cases s with
    | false =>
      rw [cond_false, s1, smallV, cond_false]
      by_cases h : n < 9223372036854775808
      · have hw : IntKind.i64.wrap (n : Int) = (n : Int) := by rw [mod_i64]; omega
        rw [hw, decide_eq_false (by omega), decide_eq_true (by omega), decide_eq_true h]; rfl
      · rw [decide_eq_true (show IntKind.i64.wrap (n : Int) < 0 by rw [mod_i64]; omega), decide_eq_false h]; rfl
    | true =>
      have hn : ¬ n = 0 := fun h => by have := f.z h; cases this
      have hu : IntKind.u64.wrap (0 - (n : Int)) = 18446744073709551616 - (n : Int) := by rw [mod_u64]; omega
      rw [cond_true, s1, smallV, cond_true, hu]
      by_cases h : n ≤ 9223372036854775808
      · have hw : IntKind.i64.wrap (18446744073709551616 - (n : Int)) = -(n : Int) := by rw [mod_i64]; omega
        rw [hw, decide_eq_true (by omega), decide_eq_true (by omega), decide_eq_true h]; rfl
      · rw [decide_eq_false (show ¬ IntKind.i64.wrap (18446744073709551616 - (n : Int)) < 0 by rw [mod_i64]; omega), decide_eq_false h]; rfl
  · rw [if_neg h64, smallV, decide_eq_false (by omega), decide_eq_false (by omega)]
    cases s <;> (simp only [whole_Small_1_eq, Bool.not_false, cond_true, cond_false, e2])
theorem xSmallR (r : Rt) : round_Small r = some (smallR r) := by
  obtain ⟨s, n, d, e, f⟩ := well_form r
  rw [round_Small_eq, round_Whole_eq, xRdWell, Option.bind_some, Option.bind_some, smallR, e]
  cases decide (nat d = [1])
  · rfl
  · rw [Bool.not_true, cond_false, Option.bind_some, round_top_eq, Option.bind_some, xSmallW f, val_nat]; rfl
end Go.Proofs.YtpdfjgooaaailaaGreatDoor.D
namespace Go.Proofs.YtpdfjgooaaailaaGreatDoor.D
open Go Go.Proofs.YtpdfjgooaaailaaGreatDoor.K
open Go.Proofs.YtpdfjgooaaailaaGreatDoor.P (nat val val_nat nat_zero nat_eq_nil nat_inj nat_one wS)
theorem text_tx {s : List UInt8} (h : plainV s = true) : vText s = (2, (false, [], []), s, false, 0) := by unfold vText; rw [h]; rfl
theorem ctext_tx {s : List UInt8} (h : plainV s = true) : ctextV (vText s) = (s, 0) := by
  have hf : cFault (vText s) = 0 := by unfold cFault; rw [right_text h, text_tx h]; rfl
  unfold ctextV
  rw [hf]
  show (vShow (vText s), (0 : Int)) = _
  unfold vShow
  rw [right_text h, text_tx h]; rfl
theorem plain_len {s : List UInt8} (h : plainV s = true) : s.length ≤ 200 := by
  unfold plainV at h
  simp only [Bool.and_eq_true, decide_eq_true_eq] at h
  exact h.2
theorem plain_all {s : List UInt8} (h : plainV s = true) : s.all pl1 = true := by
  unfold plainV at h
  simp only [Bool.and_eq_true] at h
  exact h.1
theorem plain_of {s : List UInt8} (h : s.all pl1 = true) (hl : s.length ≤ 200) : plainV s = true := by unfold plainV; rw [h, decide_eq_true hl]; rfl
theorem tk_text {s : List UInt8} (h : plainV s = true) (l : List Vl) : abacist_ftext_taker_text (vText s :: l, 0) = some ((l, 0), s) := by
  have hlen : (decide ((0 : Int) ≤ 0) && decide ((0 : Int) < ((vText s :: l).length : Int))) = true := by simp
  have hl1 : (decide ((0 : Int) ≤ 1) && decide ((1 : Int) ≤ ((vText s :: l).length : Int))) = true := by simp; omega
  rw [abacist_ftext_taker_text_eq, abacist_ftext_taker_text_1_eq]
  refine (cT hlen).trans ((cT hl1).trans ?_)
  show (coerce_Text (vText s)).bind _ = _
  rw [xcText _ (by rw [text_tx h]; show s.length ≤ _; have := plain_len h; omega), ctext_tx h, Option.bind_some, abacist_ftext_taker_text_2_eq]
  rfl
theorem tk_count (k : Nat) (hk : k ≤ 1000000) (l : List Vl) (d : Int) : abacist_ftext_taker_count (vNum (ofI (k : Int)) :: l, 0) d = some ((l, 0), (k : Int)) := by
  have hlen : (decide ((0 : Int) ≤ 0) && decide ((0 : Int) < ((vNum (ofI (k : Int)) :: l).length : Int))) = true := by simp
  have hl1 : (decide ((0 : Int) ≤ 1) && decide ((1 : Int) ≤ ((vNum (ofI (k : Int)) :: l).length : Int))) = true := by simp; omega
  have hF := Fm.of (n := (k : Int)) (by omega) (by omega)
  have hw : well (ofI (k : Int)) = ofI (k : Int) := by rw [ofI_form]; exact hF.well
  have ho : ofI (k : Int) = (false, nat k, [1]) := by
    unfold ofI
    rw [decide_eq_false (show ¬ (k : Int) < 0 by omega)]; rfl
  have hnum : numV (vNum (ofI (k : Int))) = (ofI (k : Int), 0) := by
    unfold numV
    rw [fault_num]
    show (well (ofI (k : Int)), (0 : Int)) = _
    rw [hw]
  have htr : truncR (ofI (k : Int)) = ofI (k : Int) := by
    unfold truncR
    rw [hw, ho]
    show (false && _, nat (val (nat k) / val [1]), [1]) = _
    rw [val_nat, val1, Nat.div_one]; rfl
  have hsm : smallR (ofI (k : Int)) = ((k : Int), true) := by
    unfold smallR smallV
    rw [hw, ho]
    show cond (decide (([1] : List UInt8) = [1])) (cond false _ (cond (decide (val (nat k) < 9223372036854775808)) ((val (nat k) : Int), true) (0, false))) _ = _
    rw [val_nat, decide_eq_true rfl, decide_eq_true (show k < 9223372036854775808 by omega)]; rfl
  rw [abacist_ftext_taker_count_eq, cF (decide_eq_false (by simp; omega)), abacist_ftext_taker_count_1_eq]
  refine (cT hlen).trans ((cT hl1).trans ?_)
  show (coerce_Num (vNum (ofI (k : Int)))).bind _ = _
  rw [xcNum _ (by show (0 : Nat) ≤ _; omega), hnum, Option.bind_some, abacist_ftext_taker_count_2_eq]
  show abacist_ftext_taker_count_3 (l, 0) (ofI (k : Int)) = _
  rw [abacist_ftext_taker_count_3_eq, xTrunc, Option.bind_some, htr, xSmallR, Option.bind_some, hsm]
  show cond (decide ((k : Int) < -1000000)) (abacist_ftext_taker_count_4 (k : Int) true (l, 0)) (abacist_ftext_taker_count_4 (k : Int) (decide ((k : Int) > 1000000)) (l, 0)) = _
  rw [cF (decide_eq_false (by omega)), decide_eq_false (show ¬ (k : Int) > 1000000 by omega), abacist_ftext_taker_count_4_eq, cond_false]
theorem xcText' (s : List UInt8) (h : s.length ≤ 1000) : value_Text s = some (vText s) := xvText s (by omega)
theorem do_left {s : List UInt8} (h : plainV s = true) (n : Nat) (hn : n ≤ s.length) : ftext_Do [76, 69, 70, 84] [vText s, vNum (ofI (n : Int))] = some (vText (s.take n)) := by
  have hl := plain_len h
  rw [ftext_Do_at0, show ftext_limits [76, 69, 70, 84] = some (1, 2, true) from of_depth 50 (by kernel_rfl), Option.bind_some]
  show ftext_Do_1 (0, (false, [], []), [], false, 0) ([vText s, vNum (ofI (n : Int))], 0) = _
  rw [ftext_Do_1_eq, tk_text h, Option.bind_some, tk_count n (by omega), Option.bind_some]
  show ftext_Do_8 _ _ s (n : Int) = _
  rw [ftext_Do_8_eq, ftext_ends_eq, cF (decide_eq_false (by omega)), cF (decide_eq_false (by decide)), show min (n : Int) (s.length : Int) = (n : Int) by omega, cT (show (decide (0 ≤ (n : Int)) && decide ((n : Int) ≤ (s.length : Int))) = true by simp; omega), Int.toNat_natCast,
    xcText' _ (by rw [List.length_take]; omega)]
  rfl
theorem do_right {s : List UInt8} (h : plainV s = true) (n : Nat) (hn : n ≤ s.length) : ftext_Do [82, 73, 71, 72, 84] [vText s, vNum (ofI (n : Int))] = some (vText (s.drop (s.length - n))) := by
  have hl := plain_len h
  rw [ftext_Do_at1, show ftext_limits [82, 73, 71, 72, 84] = some (1, 2, true) from of_depth 50 (by kernel_rfl), Option.bind_some]
  show ftext_Do_2 (0, (false, [], []), [], false, 0) ([vText s, vNum (ofI (n : Int))], 0) = _
  rw [ftext_Do_2_eq, tk_text h, Option.bind_some, tk_count n (by omega), Option.bind_some]
  show ftext_Do_9 _ _ s (n : Int) = _
  have hw : IntKind.i64.wrap ((s.length : Int) - (n : Int)) = ((s.length - n : Nat) : Int) := by rw [wrap64 (by omega) (by omega)]; omega
  rw [ftext_Do_9_eq, ftext_ends_eq, cF (decide_eq_false (by omega)), cT (decide_eq_true rfl), show min (n : Int) (s.length : Int) = (n : Int) by omega, hw, cT (show (decide (0 ≤ ((s.length - n : Nat) : Int)) && decide (((s.length - n : Nat) : Int) ≤ (s.length : Int))) = true by simp), Int.toNat_natCast,
    xcText' _ (by rw [List.length_drop]; omega)]
  rfl
theorem do_concat {a b : List UInt8} (ha : plainV a = true) (hb : plainV b = true) : ftext_Do [67, 79, 78, 67, 65, 84] [vText a, vText b] = some (vText (a ++ b)) := by
  have hla := plain_len ha
  have hlb := plain_len hb
  rw [ftext_Do_at2, show ftext_limits [67, 79, 78, 67, 65, 84] = some (1, 20, true) from of_depth 50 (by kernel_rfl), Option.bind_some]
  show ftext_Do_3 (0, (false, [], []), [], false, 0) ([vText a, vText b], 0) = _
  have r1 : Nat.ble (([] : List UInt8).length + a.length) 9223372036854775807 = true := Nat.ble_eq_true_of_le (by simp; omega)
  have r2 : Nat.ble ((([] : List UInt8) ++ a).length + b.length) 9223372036854775807 = true := Nat.ble_eq_true_of_le (by simp; omega)
  rw [ftext_Do_3_eq, ftext_Do_10_eq, cT (show decide ((([vText a, vText b] : List Vl).length : Int) > 0) = true from rfl), tk_text ha, Option.bind_some]
  show cond (Nat.ble (([] : List UInt8).length + a.length) 9223372036854775807) (ftext_Do_15 ([vText b], 0) (([] : List UInt8) ++ a) _) none = _
  rw [cT r1, ftext_Do_15_eq, cT (show decide ((([vText b] : List Vl).length : Int) > 0) = true from rfl), tk_text hb, Option.bind_some]
  show cond (Nat.ble ((([] : List UInt8) ++ a).length + b.length) 9223372036854775807) (ftext_Do_15 ([], 0) ((([] : List UInt8) ++ a) ++ b) _) none = _
  rw [cT r2, ftext_Do_15_eq]
  show ftext_Do_19 _ _ _ = _
  rw [ftext_Do_19_eq, List.nil_append, xcText' _ (by rw [List.length_append]; omega)]
  rfl
theorem piece_eq (s : List UInt8) (hs : s.length ≤ 1000) (i k : Nat) (hi : i ≤ s.length) (hk : i + k ≤ s.length) : ftext_piece s ((i + 1 : Nat) : Int) (k : Int) = some (s.take i, (s.take (i + k)).drop i, s.drop (i + k), true) := by
  have w1 : IntKind.i64.wrap (((i + 1 : Nat) : Int) - 1) = (i : Int) := by rw [wrap64 (by omega) (by omega)]; omega
  have m1 : min (i : Int) (s.length : Int) = (i : Int) := by omega
  have w2 : IntKind.i64.wrap ((s.length : Int) - (i : Int)) = ((s.length - i : Nat) : Int) := by rw [wrap64 (by omega) (by omega)]; omega
  have m2 : min (k : Int) ((s.length - i : Nat) : Int) = (k : Int) := by omega
  have w3 : IntKind.i64.wrap ((i : Int) + (k : Int)) = ((i + k : Nat) : Int) := by rw [wrap64 (by omega) (by omega)]; omega
  rw [ftext_piece_eq, cF (decide_eq_false (by omega)), decide_eq_false (show ¬ (k : Int) < 0 by omega), ftext_piece_1_eq, cond_false, w1, m1, w2, m2, w3,
    cT (show (decide (0 ≤ (i : Int)) && decide ((i : Int) ≤ (s.length : Int))) = true by simp; omega),
    cT (show (decide (0 ≤ (i : Int)) && (decide ((i : Int) ≤ ((i + k : Nat) : Int)) && decide (((i + k : Nat) : Int) ≤ (s.length : Int)))) = true by simp; omega),
    cT (show (decide (0 ≤ ((i + k : Nat) : Int)) && decide (((i + k : Nat) : Int) ≤ (s.length : Int))) = true by simp; omega), Int.toNat_natCast, Int.toNat_natCast]
theorem do_replace {s t : List UInt8} (h : plainV s = true) (ht : plainV t = true) (i k : Nat) (hi : i ≤ s.length) (hk : i + k ≤ s.length) :
    ftext_Do [82, 69, 80, 76, 65, 67, 69] [vText s, vNum (ofI ((i + 1 : Nat) : Int)), vNum (ofI (k : Int)), vText t] = some (vText ((s.take i ++ t) ++ s.drop (i + k))) := by
  have hl := plain_len h
  have hlt := plain_len ht
  rw [ftext_Do_at5, show ftext_limits [82, 69, 80, 76, 65, 67, 69] = some (4, 4, true) from of_depth 50 (by kernel_rfl), Option.bind_some]
  show ftext_Do_6 (0, (false, [], []), [], false, 0) ([vText s, vNum (ofI ((i + 1 : Nat) : Int)), vNum (ofI (k : Int)), vText t], 0) = _
  rw [ftext_Do_6_eq, ftext_Do_13_eq, tk_text h, Option.bind_some, tk_count (i + 1) (by omega), Option.bind_some, tk_count k (by omega), Option.bind_some, tk_text ht, Option.bind_some]
  show ftext_Do_17 _ _ s ((i + 1 : Nat) : Int) (k : Int) t = _
  rw [ftext_Do_17_eq, piece_eq s (by omega) i k hi hk, Option.bind_some]
  show cond (Nat.ble ((s.take i).length + t.length) 9223372036854775807) (cond (Nat.ble ((s.take i ++ t).length + (s.drop (i + k)).length) 9223372036854775807) _ none) none = _
  rw [cT (Nat.ble_eq_true_of_le (by rw [List.length_take]; omega)), cT (Nat.ble_eq_true_of_le (by rw [List.length_append, List.length_take, List.length_drop]; omega)),
    xcText' _ (by simp only [List.length_append, List.length_take, List.length_drop]; omega)]
  rfl
theorem do_mid {s : List UInt8} (h : plainV s = true) (i k : Nat) (hi : i ≤ s.length) (hk : i + k ≤ s.length) :
    ftext_Do [77, 73, 68] [vText s, vNum (ofI ((i + 1 : Nat) : Int)), vNum (ofI (k : Int))] = some (vText ((s.take (i + k)).drop i)) := by
  have hl := plain_len h
  rw [ftext_Do_at6, show ftext_limits [77, 73, 68] = some (3, 3, true) from of_depth 50 (by kernel_rfl), Option.bind_some]
  show ftext_Do_7 (0, (false, [], []), [], false, 0) ([vText s, vNum (ofI ((i + 1 : Nat) : Int)), vNum (ofI (k : Int))], 0) = _
  rw [ftext_Do_7_eq, ftext_Do_14_eq, tk_text h, Option.bind_some, tk_count (i + 1) (by omega), Option.bind_some, tk_count k (by omega), Option.bind_some]
  show ftext_Do_18 _ _ s ((i + 1 : Nat) : Int) (k : Int) = _
  rw [ftext_Do_18_eq, piece_eq s (by omega) i k hi hk, Option.bind_some]
  show (value_Text ((s.take (i + k)).drop i)).bind _ = _
  rw [xcText' _ (by rw [List.length_drop, List.length_take]; omega)]
  rfl
def letN (n : Nat) : Bool := cond (decide ((n : Int) ≥ 97)) (cond (decide ((n : Int) ≤ 122)) true (cond (decide ((n : Int) ≥ 65)) (decide ((n : Int) ≤ 90)) false)) (cond (decide ((n : Int) ≥ 65)) (decide ((n : Int) ≤ 90)) false)
def caseN (up : Bool) (n : Nat) : Nat := cond (letN n) (cond up (cond (Nat.ble 97 n) (n - 32) n) (cond (Nat.ble n 90) (n + 32) n)) n
def caseB (up : Bool) (c : UInt8) : UInt8 := UInt8.ofNat (caseN up c.toNat)
def caseOk (n : Nat) : Bool := Nat.blt (caseN true n) 256 && (Nat.blt (caseN false n) 256 && ((!letN n || (decide (bitop .or .u8 (n : Int) 32 = (caseN false n : Int)) && decide (bitop .andNot .u8 (n : Int) 32 = (caseN true n : Int)))) &&
  (Nat.beq (caseN true (caseN false n)) (caseN true n) && (!(Nat.ble 32 n && Nat.ble n 126) || ((Nat.ble 32 (caseN true n) && Nat.ble (caseN true n) 126) && (Nat.ble 32 (caseN false n) && Nat.ble (caseN false n) 126))))))
theorem case_all : (List.range 256).all caseOk = true := by kernel_rfl
theorem case_ok (c : UInt8) : caseOk c.toNat = true := List.all_eq_true.1 case_all _ (List.mem_range.2 c.toNat_lt)
theorem caseB_toNat (up : Bool) (c : UInt8) : (caseB up c).toNat = caseN up c.toNat := by
  have h := case_ok c
  unfold caseOk at h
  simp only [Bool.and_eq_true] at h
  have h1 := Nat.le_of_ble_eq_true h.1
  have h2 := Nat.le_of_ble_eq_true h.2.1
  unfold caseB
  cases up
  · exact UInt8.toNat_ofNat_of_lt' (show caseN false c.toNat < 256 from h2)
  · exact UInt8.toNat_ofNat_of_lt' (show caseN true c.toNat < 256 from h1)
theorem case_bits {c : UInt8} (hl : letN c.toNat = true) : bitop .or .u8 (c.toNat : Int) 32 = ((caseB false c).toNat : Int) ∧ bitop .andNot .u8 (c.toNat : Int) 32 = ((caseB true c).toNat : Int) := by
  have h := case_ok c
  unfold caseOk at h
  simp only [Bool.and_eq_true, hl, Bool.not_true, Bool.false_or, decide_eq_true_eq] at h
  rw [caseB_toNat, caseB_toNat]
  exact h.2.2.1
theorem case_twice (c : UInt8) : caseB true (caseB false c) = caseB true c := by
  have h := case_ok c
  unfold caseOk at h
  simp only [Bool.and_eq_true] at h
  have := Nat.eq_of_beq_eq_true h.2.2.2.1
  unfold caseB
  have h2 := caseB_toNat false c
  unfold caseB at h2
  rw [h2, this]
theorem case_plain (up : Bool) {c : UInt8} (hp : pl1 c = true) : pl1 (caseB up c) = true := by
  have h := case_ok c
  unfold caseOk at h
  unfold pl1 at hp ⊢
  rw [caseB_toNat]
  simp only [Bool.and_eq_true, decide_eq_true_eq] at hp
  have e : (Nat.ble 32 c.toNat && Nat.ble c.toNat 126) = true := by rw [Nat.ble_eq_true_of_le hp.1, Nat.ble_eq_true_of_le hp.2]; rfl
  simp only [Bool.and_eq_true, e, Bool.not_true, Bool.false_or] at h
  obtain ⟨_, _, _, _, ⟨h1, h2⟩, h3, h4⟩ := h
  cases up
  · simp [Nat.le_of_ble_eq_true h3, Nat.le_of_ble_eq_true h4]
  · simp [Nat.le_of_ble_eq_true h1, Nat.le_of_ble_eq_true h2]
theorem case_other (up : Bool) {c : UInt8} (h : letN c.toNat = false) : caseB up c = c := by
  unfold caseB caseN
  rw [h, cond_false]
  exact UInt8.ofNat_toNat
def N (c : UInt8) : Int := (c.toNat : Int)
theorem bytes_back (l : List UInt8) : bytesOf (l.map N) = l := by
  unfold bytesOf N
  rw [List.map_map]
  conv => rhs; rw [← List.map_id l]
  refine List.map_congr_left fun c _ => ?_
  simp
theorem set_at (a b : List UInt8) (c d : UInt8) : ((a ++ c :: b).map N).set a.length (N d) = (a ++ d :: b).map N := by
  simp only [List.map_append, List.map_cons]
  rw [List.set_append_right _ _ (by simp)]
  simp
theorem xLetter (c : UInt8) : ftext_letter (N c) = some (letN c.toNat) := by
  rw [ftext_letter_eq]
  unfold letN N
  cases decide ((c.toNat : Int) ≥ 97) <;> cases decide ((c.toNat : Int) ≤ 122) <;> cases decide ((c.toNat : Int) ≥ 65) <;> rfl
theorem cased1 (up : Bool) (s : List UInt8) (hs : s.length ≤ 1000) : ∀ (b a : List UInt8), s = a ++ b → ftext_cased_1 s up false (s.length : Int) (a.length : Int) ((a.map (caseB up) ++ b).map N) = some (s.map (caseB up))
  | [], a, h => by
    subst h
    rw [ftext_cased_1_eq, cF (decide_eq_false (by simp)), bytes_back]; simp
  | c :: b, a, h => by
    have ih := cased1 up s hs b (a ++ [c]) (by simp [h])
    have hlen : s.length = a.length + (b.length + 1) := by rw [h]; simp
    have e1 : ((a ++ [c]).map (caseB up) ++ b) = a.map (caseB up) ++ caseB up c :: b := by simp
    have w1 : IntKind.i64.wrap ((a.length : Int) + 1) = ((a ++ [c]).length : Int) := by rw [wrap64 (by omega) (by omega)]; simp
    have next : ftext_cased_2 s up false (s.length : Int) (a.length : Int) ((a.map (caseB up) ++ caseB up c :: b).map N) = some (s.map (caseB up)) := by
      rw [ftext_cased_2_eq, w1, ← e1]; exact ih
    have hl : ((a.map (caseB up) ++ c :: b).map N).length = s.length := by simp [hlen]
    have hix : (decide (0 ≤ (a.length : Int)) && decide ((a.length : Int) < (((a.map (caseB up) ++ c :: b).map N).length : Int))) = true := by rw [hl]; simp; omega
    have hget : ((a.map (caseB up) ++ c :: b).map N).getD (a.length : Int).toNat 0 = N c := by
      rw [Int.toNat_natCast, List.getD_eq_getElem?_getD]
      simp
    rw [ftext_cased_1_eq, cT (decide_eq_true (by omega)), cT hix, hget, xLetter, Option.bind_some]
    have sA : ∀ d : UInt8, ((a.map (caseB up) ++ c :: b).map N).set (a.length : Int).toNat (N d) = (a.map (caseB up) ++ d :: b).map N := fun d => by
      have := set_at (a.map (caseB up)) b c d
      rw [List.length_map] at this
      rw [Int.toNat_natCast]; exact this
    cases hL : letN c.toNat with
    | false =>
      rw [case_other up hL] at next
      exact next
    | true =>
      obtain ⟨b1, b2⟩ := case_bits hL
      have hset : ∀ v, (decide (0 ≤ (a.length : Int)) && decide ((a.length : Int) < ((((a.map (caseB up) ++ c :: b).map N).set (a.length : Int).toNat v).length : Int))) = true := fun v => by rw [List.length_set]; exact hix
      have body : ∀ q, ftext_cased_3 s up false (a.length : Int) (N c) q (s.length : Int) (a.length : Int) ((a.map (caseB up) ++ c :: b).map N) =
          cond q (ftext_cased_2 s up false (s.length : Int) (a.length : Int) ((a.map (caseB up) ++ caseB true c :: b).map N)) (ftext_cased_2 s up false (s.length : Int) (a.length : Int) ((a.map (caseB up) ++ caseB false c :: b).map N)) := fun q => by
        rw [ftext_cased_3_eq, cT hix, cT (hset _), List.set_set]
        show cond q (ftext_cased_2 _ _ _ _ _ (((a.map (caseB up) ++ c :: b).map N).set _ (bitop .andNot .u8 (c.toNat : Int) 32))) (ftext_cased_2 _ _ _ _ _ (((a.map (caseB up) ++ c :: b).map N).set _ (bitop .or .u8 (c.toNat : Int) 32))) = _
        rw [b1, b2, show ((caseB true c).toNat : Int) = N (caseB true c) from rfl, show ((caseB false c).toNat : Int) = N (caseB false c) from rfl, sA, sA]
      show cond up _ (cond false _ _) = _
      rw [body, body]
      cases up
      · exact next
      · exact next
theorem xCased (up : Bool) (s : List UInt8) (hs : s.length ≤ 1000) : ftext_cased s up false = some (s.map (caseB up)) := by
  rw [ftext_cased_eq, List.length_map]
  exact cased1 up s hs s [] rfl
theorem do_case (up : Bool) {s : List UInt8} (h : plainV s = true) : ftext_Do (cond up [85, 80, 80, 69, 82] [76, 79, 87, 69, 82]) [vText s] = some (vText (s.map (caseB up))) := by
  have hl := plain_len h
  have hc := xCased up s (by omega)
  cases up
  · show ftext_Do [76, 79, 87, 69, 82] [vText s] = _
    rw [ftext_Do_at4, show ftext_limits [76, 79, 87, 69, 82] = some (1, 1, true) from of_depth 50 (by kernel_rfl), Option.bind_some]
    show ftext_Do_5 (0, (false, [], []), [], false, 0) ([vText s], 0) = _
    rw [ftext_Do_5_eq, tk_text h, Option.bind_some]
    show ftext_Do_12 _ _ s = _
    rw [ftext_Do_12_eq, ftext_ofText_eq]
    show ((ftext_cased s false false).bind fun v9 => (value_Text v9).bind fun v10 => some v10).bind _ = _
    rw [hc, Option.bind_some, xcText' _ (by rw [List.length_map]; omega)]
    rfl
  · show ftext_Do [85, 80, 80, 69, 82] [vText s] = _
    rw [ftext_Do_at3, show ftext_limits [85, 80, 80, 69, 82] = some (1, 1, true) from of_depth 50 (by kernel_rfl), Option.bind_some]
    show ftext_Do_4 (0, (false, [], []), [], false, 0) ([vText s], 0) = _
    rw [ftext_Do_4_eq, tk_text h, Option.bind_some]
    show ftext_Do_11 _ _ s = _
    rw [ftext_Do_11_eq, ftext_ofText_eq]
    show ((ftext_cased s true false).bind fun v9 => (value_Text v9).bind fun v10 => some v10).bind _ = _
    rw [hc, Option.bind_some, xcText' _ (by rw [List.length_map]; omega)]
    rfl
theorem num21 (k : Nat) (hk : k ≤ 1000000) : w21_num (k : Int) = some (vNum (ofI (k : Int))) := by
  rw [w21_num_eq, yROf _ (by omega) (by omega), Option.bind_some, yvNum]; rfl
theorem text21 (s : List UInt8) : w21_text s = some (vText s) := by rw [w21_text_eq, yvText]; rfl
theorem rules2 (hk : w21_known = some true) {s t : List UInt8} (h : plainV s = true) (ht : plainV t = true) (n : Nat) (hn : n ≤ s.length) (hst : s.length + t.length ≤ 200) : w21_FtextRules_2 s t (n : Int) false = some true := by
  have hr : plainV ((s.take n ++ t) ++ s.drop n) = true := by
    refine plain_of ?_ (by simp only [List.length_append, List.length_take, List.length_drop]; omega)
    have hs := plain_all h
    rw [← List.take_append_drop n s, List.all_append, Bool.and_eq_true] at hs
    rw [List.all_append, List.all_append, hs.1, plain_all ht, hs.2]; rfl
  have w1 : IntKind.i64.wrap ((n : Int) + 1) = ((n + 1 : Nat) : Int) := by rw [wrap64 (by omega) (by omega)]; omega
  have hlr : ((s.take n ++ t) ++ s.drop n).length = s.length + t.length := by simp only [List.length_append, List.length_take, List.length_drop]; omega
  have he : plainV [] = true := rfl
  have d1 := do_replace h ht n 0 hn (by omega)
  have d2 := do_mid hr n t.length (by omega) (by omega)
  have d3 := do_replace hr he n t.length (by omega) (by omega)
  have lt : (s.take n ++ t).length = n + t.length := by rw [List.length_append, List.length_take]; omega
  have e2 : ((((s.take n ++ t) ++ s.drop n)).take (n + t.length)).drop n = t := by
    rw [← lt, List.take_left', List.drop_left' (by rw [List.length_take]; omega)]
    rfl
  have e3 : ((((s.take n ++ t) ++ s.drop n)).take n ++ []) ++ ((s.take n ++ t) ++ s.drop n).drop (n + t.length) = s := by
    rw [List.append_nil, ← lt, List.drop_left' rfl, List.append_assoc, List.take_left' (by rw [List.length_take]; omega), List.take_append_drop]
  rw [show n + 0 = n from rfl] at d1
  rw [e2] at d2
  rw [e3] at d3
  rw [w21_FtextRules_2_eq, cond_false, w1, num21 _ (by omega), Option.bind_some, text21, Option.bind_some, show (0 : Int) = ((0 : Nat) : Int) from rfl, num21 0 (by omega), Option.bind_some, text21, Option.bind_some, d1, Option.bind_some, num21 _ (by omega), Option.bind_some, d2,
    Option.bind_some]
  show cond (eqV (vText t) (vText t)) _ _ = _
  rw [cT (eqV_self _), Option.bind_some, text21, Option.bind_some, d3, Option.bind_some]
  show cond (eqV (vText s) (vText s)) _ _ = _
  rw [cT (eqV_self _), hk]; rfl
theorem rules1 (hk : w21_known = some true) {s t : List UInt8} (h : plainV s = true) (ht : plainV t = true) (n : Nat) (hn : n ≤ s.length) (hst : s.length + t.length ≤ 200) : w21_FtextRules_1 s t (n : Int) false = some true := by
  have hs := plain_all h
  rw [← List.take_append_drop n s, List.all_append, Bool.and_eq_true] at hs
  have p1 : plainV (s.take n) = true := plain_of hs.1 (by rw [List.length_take]; omega)
  have p2 : plainV (s.drop n) = true := plain_of hs.2 (by rw [List.length_drop]; omega)
  have w1 : IntKind.i64.wrap ((s.length : Int) - (n : Int)) = ((s.length - n : Nat) : Int) := by rw [wrap64 (by omega) (by omega)]; omega
  have d1 := do_left h n hn
  have d2 := do_right h (s.length - n) (by omega)
  rw [show s.length - (s.length - n) = n by omega] at d2
  have d3 := do_concat p1 p2
  rw [List.take_append_drop] at d3
  have pl : plainV (s.map (caseB false)) = true := plain_of (by rw [List.all_map]; exact List.all_eq_true.2 fun c hc => case_plain false (List.all_eq_true.1 (plain_all h) c hc)) (by rw [List.length_map]; omega)
  have c1 : ftext_Do [76, 79, 87, 69, 82] [vText s] = some (vText (s.map (caseB false))) := do_case false h
  have c2 : ftext_Do [85, 80, 80, 69, 82] [vText (s.map (caseB false))] = some (vText (s.map (caseB true))) := by
    have := do_case true pl
    rw [List.map_map, show caseB true ∘ caseB false = caseB true from funext case_twice] at this
    exact this
  have c3 : ftext_Do [85, 80, 80, 69, 82] [vText s] = some (vText (s.map (caseB true))) := do_case true h
  rw [w21_FtextRules_1_eq, cond_false, num21 _ (by omega), Option.bind_some, w1, num21 _ (by omega), Option.bind_some, text21, Option.bind_some, d1, Option.bind_some, Option.bind_some, d2, Option.bind_some, d3, Option.bind_some, Option.bind_some]
  show cond (!(eqV (vText s) (vText s))) _ _ = _
  rw [eqV_self, Bool.not_true, cond_false, Option.bind_some, c1, Option.bind_some, c2, Option.bind_some, Option.bind_some, c3, Option.bind_some]
  show w21_FtextRules_2 s t (n : Int) (!(eqV (vText (s.map (caseB true))) (vText (s.map (caseB true))))) = _
  rw [eqV_self]
  exact rules2 hk h ht n hn hst
theorem rules21 (hk : w21_known = some true) (s t : List UInt8) (n : Int) : w21_FtextRules s t n = some true := by
  have tr : ∀ x y z, w21_FtextRules_1 x y z true = some true := fun x y z => by rw [w21_FtextRules_1_eq, cond_true, hk]; rfl
  rw [w21_FtextRules_eq, yPlain, Option.bind_some, tr]
  cases h : plainV s with
  | false => rfl
  | true =>
    rw [Bool.not_true, cond_false, yPlain, Option.bind_some]
    cases ht : plainV t with
    | false => rfl
    | true =>
      rw [Bool.not_true, cond_false]
      by_cases h0 : n < 0
      · rw [cT (decide_eq_true h0)]
      · rw [cF (decide_eq_false h0)]
        by_cases h1 : n > (s.length : Int)
        · rw [cT (decide_eq_true h1)]
        · rw [cF (decide_eq_false h1)]
          have hls := plain_len h
          have hlt := plain_len ht
          rw [wrap64 (by omega) (by omega)]
          by_cases h2 : (s.length : Int) + (t.length : Int) > 200
          · rw [decide_eq_true h2]; exact tr _ _ _
          · rw [decide_eq_false h2]
            obtain ⟨k, rfl⟩ : ∃ k : Nat, n = (k : Int) := ⟨n.toNat, by omega⟩
            exact rules1 hk h ht k (by omega) (by omega)
end Go.Proofs.YtpdfjgooaaailaaGreatDoor.D
namespace Go.Proofs.YtpdfjgooaaailaaGreatDoor.F
open Go Go.Proofs.YtpdfjgooaaailaaGreatDoor.K
theorem wS {i : Nat} (h : i + 1 ≤ 9223372036854775807) : IntKind.i64.wrap ((i : Int) + 1) = ((i + 1 : Nat) : Int) := wrap64 (by omega) (by omega)
theorem getD_drop {s : List UInt8} {i : Nat} (h : i < s.length) : s.drop i = s.getD i 0 :: s.drop (i + 1) := by
  rw [List.drop_eq_getElem_cons h, List.getD_eq_getElem?_getD, List.getElem?_eq_getElem h]; rfl
theorem all_drop {p : UInt8 → Bool} {s : List UInt8} {i : Nat} (h : i < s.length) : (s.drop i).all p = (p (s.getD i 0) && (s.drop (i + 1)).all p) := by rw [getD_drop h, List.all_cons]
def lt (b : UInt8) : Bool := (decide (65 ≤ b.toNat) && decide (b.toNat ≤ 90)) || (decide (97 ≤ b.toNat) && decide (b.toNat ≤ 122))
def dgt (b : UInt8) : Bool := decide (48 ≤ b.toNat) && decide (b.toNat ≤ 57)
def cap (b : UInt8) : Bool := decide (65 ≤ b.toNat) && decide (b.toNat ≤ 90)
def up (b : UInt8) : UInt8 := if 97 ≤ b.toNat ∧ b.toNat ≤ 122 then UInt8.ofNat (b.toNat - 32) else b
theorem bytes_back (t : List UInt8) : bytesOf (t.map fun b => ((up b).toNat : Int)) = t.map up := by
  unfold bytesOf
  rw [List.map_map]
  refine List.map_congr_left fun b _ => ?_
  simp
def tTRUE : List UInt8 := [84, 82, 85, 69]
def tFALSE : List UInt8 := [70, 65, 76, 83, 69]
end Go.Proofs.YtpdfjgooaaailaaGreatDoor.F
namespace Go.Proofs.YtpdfjgooaaailaaGreatDoor.S
open Go Go.Proofs.YtpdfjgooaaailaaGreatDoor.K
open Go.Proofs.YtpdfjgooaaailaaGreatDoor.F (cap dgt all_drop wS)
theorem ix {i n : Nat} (h : i < n) : (decide (0 ≤ (i : Int)) && decide ((i : Int) < (n : Int))) = true := by simp; omega
def cd (b : UInt8) : Bool := cap b || dgt b
end Go.Proofs.YtpdfjgooaaailaaGreatDoor.S
set_option maxRecDepth 100000
namespace Go.Proofs.YtpdfjgooaaailaaGreatDoor.K
open Go
theorem ftext_known : w21_known = some true := of_depth 600 (by kernel_rfl)
end Go.Proofs.YtpdfjgooaaailaaGreatDoor.K
namespace Go.Proofs.YtpdfjgooaaailaaGreatDoor.K
open Go
theorem FtextRules (s : List UInt8) (_ : Wf .str s) (t : List UInt8) (_ : Wf .str t) (n : Int) (_ : Wf (.int .i64) n) : w21_FtextRules s t n = some true := D.rules21 ftext_known s t n
end Go.Proofs.YtpdfjgooaaailaaGreatDoor.K
