/- Part 9 of the proof: the machine, the tables and the pure laws that the last text joins. -/
import Derived.Test.YtljapieoihecbaaGreatDoorZ8
import Derived.Test.YtljapieoihecbaaGreatDoorZ4
/- Texts as numbers: plain Lean; the program's and the reference's; the two laws. -/
set_option linter.unusedVariables false
set_option linter.unusedSimpArgs false
namespace Go.Proofs.YtljapieoihecbaaGreatDoor.D
open Go Go.Proofs.YtljapieoihecbaaGreatDoor.K
open Go.Proofs.YtljapieoihecbaaGreatDoor.P (nat val divmod small val_nat nat_zero nat_eq_nil nat_val_length nat_length_le len_mono val_lt nat_inj sgnv powR powV nat_one wS wA wD nat_ten_len inC ten ten_len decT decT_len decT_ne decT_good decT_dv dv_lt dv good dig dig_le dv_nil dv_snoc dv_append dv_cons)
def z0 : Rt := (false, [], [])
theorem pt_cut_len {c : UInt8} {s : List UInt8} {k : Nat} (h : pos c s = some k) : (s.take k ++ s.drop (k + 1)).length + 1 = s.length := by
  have := pos_lt h
  simp; omega
def decV (s : List UInt8) : Rt × Int :=
  cond (!dg (cutV 46 s).1 || ((cutV 46 s).2.2 && !dg (cutV 46 s).2.1)) (z0, 10) (cond (decide (s.length > 400)) (z0, 9) (make (false, nat (dv ((cutV 46 s).1 ++ (cutV 46 s).2.1))) (false, nat (10 ^ (cutV 46 s).2.1.length))))
theorem cut_len (c : UInt8) (s : List UInt8) : (cutV c s).1.length + (cutV c s).2.1.length ≤ s.length := by
  unfold cutV
  cases h : pos c s with
  | none => simp
  | some k => have := pt_cut_len h; simp only [List.length_append] at this; simp only; omega
theorem cut_no {c : UInt8} {s : List UInt8} (h : (cutV c s).2.2 = false) : (cutV c s).2.1 = [] := by
  unfold cutV at h ⊢
  cases hp : pos c s with
  | none => rfl
  | some k => rw [hp] at h; cases h
theorem good_append (a b : List UInt8) : good (a ++ b) = (good a && good b) := by unfold good; rw [List.all_append]
theorem parse_good {s : List UInt8} (hg : good s = true) (h0 : s ≠ []) (hl : s.length ≤ 400) : parseV s = (nat (dv s), 0) := by rw [parseV, if_neg (by simp [h0, hg]), if_neg (by omega)]
theorem mkF (n : Nat) : mkW false n = (false, nat n) := rfl
theorem xDec (s : List UInt8) (hs : s.length ≤ 100000) : numtext_Decimal s = some (decV s) := by
  have hc := cut_len 46 s
  have hno := @cut_no 46 s
  have key : ∀ (a b : List UInt8) (pt : Bool), a.length + b.length ≤ s.length → (pt = false → b = []) → dg a = true → (pt = true → dg b = true) → numtext_Decimal_1 s a b false z0 = some (cond (decide (s.length > 400)) (z0, 9) (make (false, nat (dv (a ++ b))) (false, nat (10 ^ b.length)))) := by
    intro a b pt hab hb ha hb2
    rw [numtext_Decimal_1_eq, cond_false]
    by_cases hl : s.length > 400
    · rw [cT (decide_eq_true (by omega)), decide_eq_true hl]; rfl
    · have ha' : good a = true ∧ a ≠ [] := by simpa [dg] using ha
      have hgb : good b = true := by
        cases pt with
        | false => rw [hb rfl]; rfl
        | true => have : good b = true ∧ b ≠ [] := by simpa [dg] using hb2 rfl
                  exact this.1
      have hgab : good (a ++ b) = true := by rw [good_append, ha'.1, hgb]; rfl
      have hp : parseV (a ++ b) = (nat (dv (a ++ b)), 0) := parse_good hgab (by simp [ha'.2]) (by simp; omega)
      have hdl := nat_ten_len (dv_lt (a ++ b) hgab)
      have hpl := pow_small (b := 10) (by omega) b.length
      simp only [List.length_append] at hdl
      rw [cF (decide_eq_false (by omega)), cT (Nat.ble_eq_true_of_le (by omega)), xParse _ (by simp; omega), Option.bind_some, hp]
      simp only
      rw [cF (by rfl), xWMake _ _ (by omega), Option.bind_some, show numtext_power 10 (b.length : Int) = _ from xPower (b := 10) (by omega) (by omega) (by omega), Option.bind_some, xWMake _ _ (by omega), Option.bind_some, mkF, mkF, val_nat, val_nat, xMake _ _ (by simp only; omega) (by simp only; omega), Option.bind_some, decide_eq_false hl, cond_false]
  rw [numtext_Decimal_eq, xCut 46 s (by omega), Option.bind_some, xDigits _ (by omega), Option.bind_some, decV]
  generalize hcv : cutV 46 s = cv at hc hno
  obtain ⟨a, b, pt⟩ := cv
  simp only at hc hno ⊢
  cases ha : dg a with
  | false => rw [cT (by rfl), numtext_Decimal_1_eq]; rfl
  | true =>
    rw [cF (by rfl)]
    cases pt with
    | false =>
      rw [cond_false]
      exact key a b false hc (fun _ => hno rfl) ha (fun h => by cases h)
    | true =>
      rw [cond_true, xDigits _ (by omega), Option.bind_some]
      cases hb : dg b with
      | false => rw [numtext_Decimal_1_eq]; rfl
      | true => exact key a b true hc (fun h => by cases h) ha (fun _ => hb)
theorem yDec (s : List UInt8) (hs : s.length ≤ 100000) : abacistref07_Decimal s = some (decV s) := by
  have hc := cut_len 46 s
  have hno := @cut_no 46 s
  have key : ∀ (a b : List UInt8) (pt : Bool), a.length + b.length ≤ s.length → (pt = false → b = []) → dg a = true → (pt = true → dg b = true) → abacistref07_Decimal_2 s a b false z0 = some (cond (decide (s.length > 400)) (z0, 9) (make (false, nat (dv (a ++ b))) (false, nat (10 ^ b.length)))) := by
    intro a b pt hab hb ha hb2
    rw [abacistref07_Decimal_2_eq, cond_false]
    by_cases hl : s.length > 400
    · rw [cT (decide_eq_true (by omega)), decide_eq_true hl]; rfl
    · have ha' : good a = true ∧ a ≠ [] := by simpa [dg] using ha
      have hgb : good b = true := by
        cases pt with
        | false => rw [hb rfl]; rfl
        | true => have : good b = true ∧ b ≠ [] := by simpa [dg] using hb2 rfl
                  exact this.1
      have hgab : good (a ++ b) = true := by rw [good_append, ha'.1, hgb]; rfl
      have hp : parseV (a ++ b) = (nat (dv (a ++ b)), 0) := parse_good hgab (by simp [ha'.2]) (by simp; omega)
      have hdl := nat_ten_len (dv_lt (a ++ b) hgab)
      have hpl := pow_small (b := 10) (by omega) b.length
      simp only [List.length_append] at hdl
      rw [cF (decide_eq_false (by omega)), cT (Nat.ble_eq_true_of_le (by omega)), yParse _ (by simp; omega), Option.bind_some, hp]
      simp only
      rw [yWMake _ _ (by omega), Option.bind_some, yPower (b := 10) (t := [10]) rfl (by simp) (by omega) (by omega) (by omega), Option.bind_some, yWMake _ _ (by omega), Option.bind_some, mkF, mkF, val_nat, val_nat, yMake _ _ (by simp only; omega) (by simp only; omega), Option.bind_some, decide_eq_false hl, cond_false]
  have after : ∀ (v : Int) (a b : List UInt8) (pt : Bool), decide (v ≥ 0) = pt → a.length + b.length ≤ s.length → (pt = false → b = []) → abacistref07_Decimal_1 s v a b z0 = some (cond (!dg a || (pt && !dg b)) (z0, 10) (cond (decide (s.length > 400)) (z0, 9) (make (false, nat (dv (a ++ b))) (false, nat (10 ^ b.length))))) := by
    intro v a b pt hv hab hb
    rw [abacistref07_Decimal_1_eq, yDigits _ (by omega), Option.bind_some, hv]
    cases ha : dg a with
    | false => rw [cT (by rfl), abacistref07_Decimal_2_eq]; rfl
    | true =>
      rw [cF (by rfl)]
      cases pt with
      | false =>
        rw [cond_false]
        exact key a b false hab hb ha (fun h => by cases h)
      | true =>
        rw [cond_true, yDigits _ (by omega), Option.bind_some]
        cases hb2 : dg b with
        | false => rw [abacistref07_Decimal_2_eq]; rfl
        | true => exact key a b true hab hb ha (fun _ => hb2)
  rw [abacistref07_Decimal_eq, show abacistref07_find s 46 = _ from yFind s 46 (by omega), Option.bind_some, decV, findV]
  unfold cutV at hc hno ⊢
  cases hp : pos 46 s with
  | none =>
    rw [hp] at hc
    simp only at hc ⊢
    rw [cF (by rfl)]
    exact after (-1) s [] false (by rfl) (by simp) (fun _ => rfl)
  | some k =>
    rw [hp] at hc
    have hk := pos_lt hp
    simp only at hc ⊢
    rw [cT (decide_eq_true (by omega)), cT (inC (by omega)), wS (by omega), cT (inC (by omega)), Int.toNat_natCast, Int.toNat_natCast]
    exact after _ _ _ true (decide_eq_true (by omega)) hc (fun h => by cases h)
def fracV (a b : List UInt8) : Rt × Int :=
  cond (decide ((parseV a).2 = 3) || decide ((parseV b).2 = 3)) (z0, 10) (cond (!decide ((parseV a).2 = 0) || !decide ((parseV b).2 = 0)) (z0, 9) (make (false, (parseV a).1) (false, (parseV b).1)))
theorem parse_or (s : List UInt8) : parseV s = ([], 3) ∨ parseV s = ([], 9) ∨ ∃ n, (nat n).length ≤ 400 ∧ parseV s = (nat n, 0) := by
  rw [parseV]
  by_cases h : s = [] ∨ good s = false
  · rw [if_pos h]; exact .inl rfl
  · rw [if_neg h]
    by_cases hl : s.length > 400
    · rw [if_pos hl]; exact .inr (.inl rfl)
    · have hg : good s = true := by
        cases hg : good s with
        | true => rfl
        | false => exact absurd (.inr hg) h
      rw [if_neg hl]
      exact .inr (.inr ⟨dv s, Nat.le_trans (nat_ten_len (dv_lt s hg)) (by omega), rfl⟩)
theorem xFrac (a b : List UInt8) (ha : a.length ≤ 100000) (hb : b.length ≤ 100000) : numtext_fraction a b = some (fracV a b) := by
  rw [numtext_fraction_eq, xParse _ (by omega), Option.bind_some, xParse _ (by omega), Option.bind_some, fracV]
  simp only [numtext_fraction_1_eq, numtext_fraction_2_eq]
  rcases parse_or a with h | h | ⟨n, hn, h⟩ <;> rcases parse_or b with k | k | ⟨m, hm, k⟩ <;> rw [h, k] <;> first
    | rfl
    | (simp only
       rw [xWMake _ _ (by omega), xWMake _ _ (by omega)]
       simp only [Option.bind_some, mkF, val_nat]
       rw [xMake _ _ (by simp only; omega) (by simp only; omega)]
       rfl)
theorem yFrac (a b : List UInt8) (ha : a.length ≤ 100000) (hb : b.length ≤ 100000) : abacistref07_fraction a b = some (fracV a b) := by
  rw [abacistref07_fraction_eq, yParse _ (by omega), Option.bind_some, yParse _ (by omega), Option.bind_some, fracV]
  simp only [abacistref07_fraction_1_eq, abacistref07_fraction_2_eq]
  rcases parse_or a with h | h | ⟨n, hn, h⟩ <;> rcases parse_or b with k | k | ⟨m, hm, k⟩ <;> rw [h, k] <;> first
    | rfl
    | (simp only
       rw [yWMake _ _ (by omega), yWMake _ _ (by omega)]
       simp only [Option.bind_some, mkF, val_nat]
       rw [yMake _ _ (by simp only; omega) (by simp only; omega)]
       rfl)
def bodyV (t : List UInt8) : Rt × Int := cond (cutV 47 t).2.2 (fracV (cutV 47 t).1 (cutV 47 t).2.1) (decV t)
def parseN (s : List UInt8) : Rt × Int := cond (decide ((bodyV (preV 45 s).1).2 = 0) && (preV 45 s).2) (negR (bodyV (preV 45 s).1).1, (bodyV (preV 45 s).1).2) (bodyV (preV 45 s).1)
theorem xParseN (s : List UInt8) (hs : s.length ≤ 100000) : numtext_Parse s = some (parseN s) := by
  have hl := pre_len 45 s
  have hc := cut_len 47 (preV 45 s).1
  have tail : ∀ (q : Rt × Int) (neg : Bool), numtext_Parse_1 neg q.2 (false, [], []) q.1 = some (cond (decide (q.2 = 0) && neg) (negR q.1, q.2) q) := by
    intro q neg
    simp only [numtext_Parse_1_eq, numtext_Parse_2_eq, numtext_Parse_3_eq, xNeg, Option.bind_some]
    cases decide (q.2 = 0) <;> cases neg <;> rfl
  rw [numtext_Parse_eq, xPre, Option.bind_some, xCut 47 _ (by omega), Option.bind_some, xFrac _ _ (by omega) (by omega), xDec _ (by omega), Option.bind_some, Option.bind_some, tail, tail, parseN, bodyV]
  cases (cutV 47 (preV 45 s).1).2.2 <;> rfl
theorem yParseN (s : List UInt8) (hs : s.length ≤ 100000) : abacistref07_Parse s = some (parseN s) := by
  have tail : ∀ (q : Rt × Int) (neg : Bool), abacistref07_Parse_3 neg q.2 (false, [], []) q.1 = some (cond (decide (q.2 = 0) && neg) (negR q.1, q.2) q) := by
    intro q neg
    simp only [abacistref07_Parse_3_eq, abacistref07_Parse_4_eq, abacistref07_Parse_5_eq, yNeg, Option.bind_some]
    cases decide (q.2 = 0) <;> cases neg <;> rfl
  have body : ∀ (t : List UInt8) (neg : Bool), t.length ≤ 100000 → abacistref07_Parse_2 t neg (false, [], []) = some (cond (decide ((bodyV t).2 = 0) && neg) (negR (bodyV t).1, (bodyV t).2) (bodyV t)) := by
    intro t neg ht
    rw [abacistref07_Parse_2_eq, yDec _ (by omega), Option.bind_some, show abacistref07_find t 47 = _ from yFind t 47 (by omega), Option.bind_some, findV, bodyV, cutV]
    cases hp : pos 47 t with
    | none =>
      simp only
      rw [cF (by rfl), tail]; rfl
    | some k =>
      have hk := pos_lt hp
      simp only
      rw [cT (decide_eq_true (by omega)), cT (inC (by omega)), wS (by omega), cT (inC (by omega)), Int.toNat_natCast, Int.toNat_natCast, yFrac _ _ (by simp; omega) (by simp; omega), Option.bind_some, tail]; rfl
  rw [abacistref07_Parse_eq, parseN]
  cases s with
  | nil => rw [cF (by rfl), abacistref07_Parse_1_eq, cond_false, body _ _ (by simp)]; rfl
  | cons b t =>
    rw [cT (decide_eq_true (by simp)), cT (by simp), List.getD_cons_zero, abacistref07_Parse_1_eq]
    simp only [List.length_cons] at hs
    by_cases h : b = 45
    · subst h
      rw [cT (by rfl), cT (by simp; omega), body _ _ (by simp; omega)]; rfl
    · have hd : decide ((b.toNat : Int) = 45) = false := decide_eq_false fun e => h (UInt8.toNat_inj.1 (by show b.toNat = 45; omega))
      rw [hd, cond_false, body _ _ (by simp; omega)]
      simp only [preV, if_neg h]
/-! ### the laws -/
/-! ### a text is read as its number -/
theorem dig_ne {c : UInt8} (h : dig c = true) : c ≠ 45 ∧ c ≠ 46 ∧ c ≠ 47 := by
  have := dig_le h
  refine ⟨?_, ?_, ?_⟩ <;> (rintro rfl; simp at this)
theorem pos_none {c : UInt8} : ∀ {s : List UInt8}, (∀ b ∈ s, b ≠ c) → pos c s = none
  | [], _ => rfl
  | b :: s, h => by
    simp only [pos]
    rw [if_neg (h b (by simp)), pos_none fun x hx => h x (by simp [hx])]; rfl
theorem pos_here {c : UInt8} : ∀ {a b : List UInt8}, (∀ x ∈ a, x ≠ c) → pos c (a ++ c :: b) = some a.length
  | [], b, _ => by simp [pos]
  | x :: a, b, h => by
    simp only [List.cons_append, pos]
    rw [if_neg (h x (by simp)), pos_here fun y hy => h y (by simp [hy])]; rfl
theorem good_mem {s : List UInt8} (h : good s = true) {b : UInt8} (hb : b ∈ s) : dig b = true := List.all_eq_true.1 h b hb
theorem cut_here {c : UInt8} {a b : List UInt8} (h : ∀ x ∈ a, x ≠ c) : cutV c (a ++ c :: b) = (a, b, true) := by
  unfold cutV
  rw [pos_here h]
  simp only [List.take_left', List.length_append]
  congr 2
  rw [List.drop_append, List.drop_of_length_le (by omega)]; simp
theorem cut_none {c : UInt8} {s : List UInt8} (h : ∀ x ∈ s, x ≠ c) : cutV c s = (s, [], false) := by
  unfold cutV
  rw [pos_none h]
theorem dg_of {s : List UInt8} (hg : good s = true) (h0 : s ≠ []) : dg s = true := by unfold dg; rw [hg, decide_eq_false h0]; rfl
theorem dv_zeros : ∀ (k : Nat) (s : List UInt8), dv (List.replicate k 48 ++ s) = dv s
  | 0, s => rfl
  | k + 1, s => by
    rw [List.replicate_succ, List.cons_append, dv_cons, dv_zeros k s]; simp
theorem good_zeros (k : Nat) : good (List.replicate k 48) = true := by
  unfold good
  rw [List.all_replicate]
  cases k <;> rfl
/-- A number's digits are read as it. -/
theorem dec_pt {n d : Nat} (f : Fm false n d) (he : (endsN d).2 = true) (hl : (ptN (endsN d).1 (decT (n * 10 ^ (endsN d).1 / d))).length ≤ 400) : decV (ptN (endsN d).1 (decT (n * 10 ^ (endsN d).1 / d))) = ((false, nat n, nat d), 0) ∧ ∀ x ∈ ptN (endsN d).1 (decT (n * 10 ^ (endsN d).1 / d)), x ≠ 45 ∧ x ≠ 47 := by
  have h0 := f.pos
  have hd : d ∣ 10 ^ (endsN d).1 := by
    unfold endsN at he ⊢
    by_cases h : 2 ^ ordB 2 d * 5 ^ ordB 5 d = d
    · rw [if_pos h]
      simp only
      conv => lhs; rw [← h]
      rw [show (10 : Nat) = 2 * 5 from rfl, Nat.mul_pow]
      exact Nat.mul_dvd_mul (Nat.pow_dvd_pow 2 (Nat.le_max_left _ _)) (Nat.pow_dvd_pow 5 (Nat.le_max_right _ _))
    · rw [if_neg h] at he; cases he
  have hz : (endsN d).1 = 0 → d = 1 := by
    intro h
    rw [h, Nat.pow_zero] at hd
    exact Nat.dvd_one.1 hd
  generalize (endsN d).1 = k at hd hz hl ⊢
  obtain ⟨c, hc⟩ := hd
  have hq : n * 10 ^ k / d = n * c := by rw [hc, ← Nat.mul_assoc, Nat.mul_comm n d, Nat.mul_assoc, Nat.mul_div_cancel_left _ h0]
  have hc0 : 0 < c := by
    rcases Nat.eq_zero_or_pos c with h | h
    · rw [h, Nat.mul_zero] at hc; have := Nat.pow_pos (n := k) (show 0 < 10 by decide); omega
    · exact h
  have mk : make (false, nat (n * c)) (false, nat (10 ^ k)) = ((false, nat n, nat d), 0) := by
    have := make_form f
    unfold make at this ⊢
    simp only [val_nat] at this ⊢
    rw [hc, Nat.gcd_mul_right, f.co, Nat.one_mul, Nat.mul_div_cancel _ hc0, Nat.mul_div_cancel _ hc0]
    have hne : d * c ≠ 0 := Nat.mul_ne_zero (by omega) (by omega)
    rw [if_neg hne]
    rw [if_neg (by omega), f.co, Nat.div_one, Nat.div_one] at this
    exact this
  rw [hq] at hl ⊢
  by_cases hk : k = 0
  · subst hk
    rw [ptN, if_pos rfl] at hl ⊢
    have hg := decT_good (n * c)
    refine ⟨?_, fun x hx => ⟨(dig_ne (good_mem hg hx)).1, (dig_ne (good_mem hg hx)).2.2⟩⟩
    rw [decV, cut_none fun x hx => (dig_ne (good_mem hg hx)).2.1]
    simp only
    rw [dg_of hg (decT_ne _), decide_eq_false (by omega), List.append_nil, decT_dv]
    exact mk
  · rw [ptN, if_neg hk] at hl ⊢
    generalize hp : List.replicate (k + 1 - (decT (n * c)).length) 48 ++ decT (n * c) = p at hl ⊢
    have hgp : good p = true := by rw [← hp, good_append, good_zeros, decT_good]; rfl
    have hdp : dv p = n * c := by rw [← hp, dv_zeros, decT_dv]
    have hlp : k + 1 ≤ p.length := by rw [← hp]; simp; omega
    have g1 : good (p.take (p.length - k)) = true := good_take hgp _
    have g2 : good (p.drop (p.length - k)) = true := good_dropT hgp _
    have l2 : (p.drop (p.length - k)).length = k := by simp; omega
    have n1 : p.take (p.length - k) ≠ [] := fun e => by have := congrArg List.length e; simp at this; omega
    have n2 : p.drop (p.length - k) ≠ [] := fun e => by rw [e] at l2; simp at l2; omega
    rw [List.append_assoc, show ([46] : List UInt8) ++ p.drop (p.length - k) = 46 :: p.drop (p.length - k) from rfl] at hl ⊢
    refine ⟨?_, fun x hx => ?_⟩
    · rw [decV, cut_here fun x hx => (dig_ne (good_mem g1 hx)).2.1]
      simp only
      rw [dg_of g1 n1, dg_of g2 n2, decide_eq_false (by omega), List.take_append_drop, hdp, l2]
      exact mk
    · rcases List.mem_append.1 hx with h | h
      · exact ⟨(dig_ne (good_mem g1 h)).1, (dig_ne (good_mem g1 h)).2.2⟩
      · rcases List.mem_cons.1 h with h | h
        · subst h; exact ⟨by decide, by decide⟩
        · exact ⟨(dig_ne (good_mem g2 h)).1, (dig_ne (good_mem g2 h)).2.2⟩
theorem Fm.pos' {s : Bool} {n d : Nat} (f : Fm s n d) : Fm false n d := ⟨f.nl, f.dl, f.pos, f.co, fun _ => rfl⟩
theorem parse_text {s : Bool} {n d : Nat} (f : Fm s n d) : parseN (textF s n d) = ((s, nat n, nat d), 0) := by
  have h1 := f.nl
  have h2 := f.dl
  have hdn := d_len h1
  have hdd := d_len h2
  have hq := q_len (d := d) (k := (endsN d).1) h1
  have hk := ends_le (by have := f.pos; omega : d ≠ 0) h2
  -- the text without its sign
  have key : ∃ t, textF s n d = cond s [45] [] ++ t ∧ t ≠ [] ∧ (∀ x, t.head? = some x → x ≠ 45) ∧ bodyV t = ((false, nat n, nat d), 0) := by
    refine ⟨_, rfl, ?_⟩
    cases hb : (endsN d).2 && decide ((endsN d).1 ≤ 20) with
    | true =>
      rw [Bool.and_eq_true] at hb
      have h20 := of_decide_eq_true hb.2
      have hpt := pt_len (endsN d).1 (decT (n * 10 ^ (endsN d).1 / d)) (by omega) (by omega)
      obtain ⟨e1, e2⟩ := dec_pt f.pos' hb.1 (by omega)
      rw [cond_true]
      refine ⟨?_, fun x hx => (e2 x (List.mem_of_mem_head? hx)).1, ?_⟩
      · unfold ptN
        split
        · exact decT_ne _
        · simp
      · rw [bodyV, cut_none fun x hx => (e2 x hx).2]; exact e1
    | false =>
      have gn := decT_good n
      have gd := decT_good d
      rw [cond_false, List.append_assoc]
      refine ⟨by simp, fun x hx => ?_, ?_⟩
      · cases hn : decT n with
        | nil => exact absurd hn (decT_ne n)
        | cons c l =>
          rw [hn] at hx gn
          simp at hx
          subst hx
          exact (dig_ne (good_mem gn (by simp))).1
      · rw [bodyV, show ([47] : List UInt8) ++ decT d = 47 :: decT d from rfl, cut_here fun x hx => (dig_ne (good_mem gn hx)).2.2]
        simp only
        rw [cond_true, fracV, parse_good gn (decT_ne n) (by omega), parse_good gd (decT_ne d) (by omega), decT_dv, decT_dv]
        exact make_form f.pos'
  obtain ⟨t, e, ht, hh, hbd⟩ := key
  rw [e, parseN]
  cases s with
  | true =>
    have hn0 : n ≠ 0 := fun h => by have := f.z h; cases this
    rw [show (cond true [45] [] : List UInt8) ++ t = 45 :: t from rfl, show preV 45 (45 :: t) = (t, true) from rfl]
    simp only
    rw [hbd]
    simp only [decide_true, Bool.and_true, cond_true]
    rw [f.pos'.neg, decide_eq_false hn0]; rfl
  | false =>
    rw [show (cond false [45] [] : List UInt8) ++ t = t from rfl]
    cases t with
    | nil => exact absurd rfl ht
    | cons b l =>
      have hb : b ≠ 45 := hh b rfl
      rw [preV, if_neg hb]
      simp only
      rw [Bool.and_false, cond_false, hbd]
end Go.Proofs.YtljapieoihecbaaGreatDoor.D
namespace Go.Proofs.YtljapieoihecbaaGreatDoor.K
open Go
end Go.Proofs.YtljapieoihecbaaGreatDoor.K

/- Values: plain Lean; the program's and the reference's. -/
set_option linter.unusedVariables false
set_option linter.unusedSimpArgs false
namespace Go.Proofs.YtljapieoihecbaaGreatDoor.D
open Go Go.Proofs.YtljapieoihecbaaGreatDoor.K
open Go.Proofs.YtljapieoihecbaaGreatDoor.P (nat val val_nat nat_zero nat_eq_nil nat_inj nat_one wS inC dv good dig dig_le decT decT_good decT_ne)
abbrev Vl := Int × (Bool × List UInt8 × List UInt8) × List UInt8 × Bool × Int
def eqV (v w : Vl) : Bool := (decide (v.1 = w.1)) && ((v.2.1.1 == w.2.1.1) && ((decide (v.2.1.2.1 = w.2.1.2.1)) && ((decide (v.2.1.2.2 = w.2.1.2.2)) && ((decide (v.2.2.1 = w.2.2.1)) && ((v.2.2.2.1 == w.2.2.2.1) && (decide (v.2.2.2.2 = w.2.2.2.2)))))))
theorem eqV_eq (v w : Vl) : eqV v w = decide (v = w) := by
  obtain ⟨a, ⟨b, c, d⟩, e, f, g⟩ := v
  obtain ⟨a', ⟨b', c', d'⟩, e', f', g'⟩ := w
  unfold eqV
  rw [Bool.eq_iff_iff]
  simp only [Bool.and_eq_true, decide_eq_true_eq, beq_iff_eq, Prod.mk.injEq]
  constructor
  · rintro ⟨h1, h2, h3, h4, h5, h6, h7⟩; exact ⟨h1, ⟨h2, h3, h4⟩, h5, h6, h7⟩
  · rintro ⟨h1, ⟨h2, h3, h4⟩, h5, h6, h7⟩; exact ⟨h1, h2, h3, h4, h5, h6, h7⟩
def blank : Vl := (0, (false, [], []), [], false, 0)
/-! ### which texts can be values -/
def pl1 (b : UInt8) : Bool := decide (32 ≤ b.toNat) && decide (b.toNat ≤ 126)
def plainV (s : List UInt8) : Bool := s.all pl1 && decide (s.length ≤ 200)
theorem all_drop {p : UInt8 → Bool} {s : List UInt8} {i : Nat} (h : i < s.length) : (s.drop i).all p = (p (s.getD i 0) && (s.drop (i + 1)).all p) := by rw [getD_drop h, List.all_cons]
theorem xPlain1 (s : List UInt8) (hs : s.length ≤ 9223372036854775807) : ∀ (m i : Nat), i + m = s.length → value_plain_1 s (s.map fun b => (b.toNat : Int)) ((s.map fun b => (b.toNat : Int)).length : Int) (i : Int) = some ((s.drop i).all pl1 && decide (s.length ≤ 200))
  | 0, i, h => by
    rw [value_plain_1_eq, cF (decide_eq_false (by rw [List.length_map]; omega)), List.drop_of_length_le (by omega)]
    exact congrArg some (decide_eq_decide.2 (by omega))
  | m + 1, i, h => by
    have hi : i < s.length := by omega
    have hg : (s.map fun b => (b.toNat : Int)).getD (i : Int).toNat 0 = ((s.getD i 0).toNat : Int) := by simp [List.getD, hi]
    have next : value_plain_2 s (s.map fun b => (b.toNat : Int)) ((s.map fun b => (b.toNat : Int)).length : Int) (i : Int) false = some ((s.drop (i + 1)).all pl1 && decide (s.length ≤ 200)) := by
      rw [value_plain_2_eq, cond_false, wS (by omega)]; exact xPlain1 s hs m (i + 1) (by omega)
    have stop : value_plain_2 s (s.map fun b => (b.toNat : Int)) ((s.map fun b => (b.toNat : Int)).length : Int) (i : Int) true = some false := by rw [value_plain_2_eq, cond_true]
    rw [value_plain_1_eq, cT (decide_eq_true (by rw [List.length_map]; omega)), cT (by rw [List.length_map]; exact ix hi), hg, all_drop hi]
    generalize s.getD i 0 = c
    by_cases h1 : c.toNat < 32
    · rw [cT (decide_eq_true (by omega)), stop, show pl1 c = false by unfold pl1; simp; omega]; rfl
    · rw [cF (decide_eq_false (by omega))]
      by_cases h2 : c.toNat > 126
      · rw [decide_eq_true (show (c.toNat : Int) > 126 by omega), stop, show pl1 c = false by unfold pl1; simp; omega]; rfl
      · rw [decide_eq_false (show ¬ (c.toNat : Int) > 126 by omega), next, show pl1 c = true by unfold pl1; simp; omega]; rfl
theorem xPlain (s : List UInt8) (hs : s.length ≤ 9223372036854775807) : value_plain s = some (plainV s) := (value_plain_eq s).trans (xPlain1 s hs s.length 0 (Nat.zero_add _))
theorem yPlain1 (s : List UInt8) (hs : s.length ≤ 200) : ∀ (m i : Nat), i + m = s.length → abacistref08_Plain_1 s (i : Int) = some ((s.drop i).all pl1)
  | 0, i, h => by
    rw [abacistref08_Plain_1_eq, cF (decide_eq_false (by omega)), List.drop_of_length_le (by omega)]; rfl
  | m + 1, i, h => by
    have hi : i < s.length := by omega
    have next : abacistref08_Plain_2 s (i : Int) false = some ((s.drop (i + 1)).all pl1) := by
      rw [abacistref08_Plain_2_eq, cond_false, wS (by omega)]; exact yPlain1 s hs m (i + 1) (by omega)
    have stop : abacistref08_Plain_2 s (i : Int) true = some false := by rw [abacistref08_Plain_2_eq, cond_true]
    rw [abacistref08_Plain_1_eq, cT (decide_eq_true (by omega)), cT (ix hi), cT (ix hi), Int.toNat_natCast, all_drop hi]
    generalize s.getD i 0 = c
    by_cases h1 : c.toNat < 32
    · rw [cT (decide_eq_true (by omega)), stop, show pl1 c = false by unfold pl1; simp; omega]; rfl
    · rw [cF (decide_eq_false (by omega))]
      by_cases h2 : c.toNat > 126
      · rw [decide_eq_true (show (c.toNat : Int) > 126 by omega), stop, show pl1 c = false by unfold pl1; simp; omega]; rfl
      · rw [decide_eq_false (show ¬ (c.toNat : Int) > 126 by omega), next, show pl1 c = true by unfold pl1; simp; omega]; rfl
theorem yPlain (s : List UInt8) : abacistref08_Plain s = some (plainV s) := by
  rw [abacistref08_Plain_eq]
  by_cases h : s.length ≤ 200
  · have := yPlain1 s h s.length 0 (Nat.zero_add _)
    rw [cF (decide_eq_false (by omega)), plainV, decide_eq_true h, Bool.and_true]; exact this
  · rw [cT (decide_eq_true (by omega)), plainV, decide_eq_false h, Bool.and_false]
/-! ### names of faults -/
def namesL : List (List UInt8) := [[], [35, 68, 73, 86, 47, 48, 33], [35, 86, 65, 76, 85, 69, 33], [35, 82, 69, 70, 33], [35, 78, 65, 77, 69, 63], [35, 78, 85, 77, 33], [35, 78, 47, 65], [35, 67, 73, 82, 67, 33]]
def isF (n : Int) : Bool := decide (1 ≤ n) && decide (n ≤ 7)
def nameV (n : Int) : List UInt8 := cond (isF n) (namesL.getD n.toNat []) []
theorem isF_cases {n : Int} (h : isF n = true) : n = 1 ∨ n = 2 ∨ n = 3 ∨ n = 4 ∨ n = 5 ∨ n = 6 ∨ n = 7 := by
  unfold isF at h
  simp at h
  omega
theorem isF_not {n : Int} (h : isF n = false) : n < 1 ∨ 7 < n := by
  unfold isF at h
  simp at h
  omega
theorem xName (n : Int) : value_Name n = some (nameV n) := by
  rw [value_Name_eq, value_Name_1_eq, nameV]
  by_cases h0 : n < 0
  · rw [cT (decide_eq_true h0), value_Name_2_eq, show isF n = false by unfold isF; simp; omega]; rfl
  · rw [cF (decide_eq_false h0), value_Name_2_eq]
    by_cases h8 : n ≥ 8
    · rw [cT (decide_eq_true h8), show isF n = false by unfold isF; simp; omega]; rfl
    · rw [cF (decide_eq_false h8), cT (by simp; omega)]
      by_cases hz : n = 0
      · subst hz; rfl
      · rw [show isF n = true by unfold isF; simp; omega]; rfl
def namedF (s : List UInt8) : Nat → Nat → Int × Bool
  | 0, _ => (0, false)
  | m + 1, i => if 0 < i ∧ namesL.getD i [] = s then ((i : Int), true) else namedF s m (i + 1)
theorem xNamed1 (s : List UInt8) : ∀ (m i : Nat), i + m = 8 → value_Named_2 s [] [35, 68, 73, 86, 47, 48, 33] [35, 86, 65, 76, 85, 69, 33] [35, 82, 69, 70, 33] [35, 78, 65, 77, 69, 63] [35, 78, 85, 77, 33] [35, 78, 47, 65] [35, 67, 73, 82, 67, 33] (i : Int) = some (namedF s m i)
  | 0, i, h => by rw [value_Named_2_eq, cF (decide_eq_false (by omega))]; rfl
  | m + 1, i, h => by
    have next : value_Named_3 s (i : Int) [] [35, 68, 73, 86, 47, 48, 33] [35, 86, 65, 76, 85, 69, 33] [35, 82, 69, 70, 33] [35, 78, 65, 77, 69, 63] [35, 78, 85, 77, 33] [35, 78, 47, 65] [35, 67, 73, 82, 67, 33] (i : Int) false = some (namedF s m (i + 1)) := by
      rw [value_Named_3_eq, cond_false, wS (by omega), xNamed1 s m (i + 1) (by omega)]
    rw [value_Named_2_eq, cT (decide_eq_true (by omega)), cT (by simp; omega), Int.toNat_natCast, namedF]
    by_cases h0 : 0 < i
    · rw [cT (decide_eq_true (by omega))]
      by_cases hs : namesL.getD i [] = s
      · rw [if_pos ⟨h0, hs⟩, decide_eq_true (show (([[], [35, 68, 73, 86, 47, 48, 33], [35, 86, 65, 76, 85, 69, 33], [35, 82, 69, 70, 33], [35, 78, 65, 77, 69, 63], [35, 78, 85, 77, 33], [35, 78, 47, 65], [35, 67, 73, 82, 67, 33]] : List (List UInt8)).getD i []) = s from hs), value_Named_3_eq, cond_true]
      · rw [if_neg (fun h => hs h.2), decide_eq_false (show ¬ (([[], [35, 68, 73, 86, 47, 48, 33], [35, 86, 65, 76, 85, 69, 33], [35, 82, 69, 70, 33], [35, 78, 65, 77, 69, 63], [35, 78, 85, 77, 33], [35, 78, 47, 65], [35, 67, 73, 82, 67, 33]] : List (List UInt8)).getD i []) = s from hs), next]
    · rw [cF (decide_eq_false (by omega)), if_neg (fun h => h0 h.1), next]
def namedV (s : List UInt8) : Int × Bool := namedF s 7 1
theorem xNamed (s : List UInt8) : value_Named s = some (namedV s) := by
  rw [value_Named_eq, value_Named_1_eq]
  exact xNamed1 s 8 0 rfl
theorem namedF_spec (s : List UInt8) : ∀ (m i : Nat), 1 ≤ i → i + m = 8 → (namedF s m i).2 = true → isF (namedF s m i).1 = true ∧ nameV (namedF s m i).1 = s
  | 0, i, _, _, h => by cases h
  | m + 1, i, h1, h8, h => by
    unfold namedF at h ⊢
    by_cases hs : 0 < i ∧ namesL.getD i [] = s
    · rw [if_pos hs]
      have hf : isF (i : Int) = true := by unfold isF; simp; omega
      exact ⟨hf, by unfold nameV; rw [hf, cond_true, Int.toNat_natCast]; exact hs.2⟩
    · rw [if_neg hs] at h ⊢
      exact namedF_spec s m (i + 1) (by omega) (by omega) h
theorem named_hash {s : List UInt8} (h : (namedV s).2 = true) : s.head? = some 35 := by
  obtain ⟨h1, h2⟩ := namedF_spec s 7 1 (Nat.le_refl _) rfl h
  rw [← h2]
  rcases isF_cases h1 with h | h | h | h | h | h | h <;> rw [h] <;> rfl
/-! ### values of their kinds -/
def vNum (r : Rt) : Vl := (1, well r, [], false, 0)
def vFault (n : Int) : Vl := (4, (false, [], []), [], false, cond (isF n) n 2)
def vText (s : List UInt8) : Vl := cond (plainV s) (2, (false, [], []), s, false, 0) (vFault 2)
def vTruth (b : Bool) : Vl := (3, (false, [], []), [], b, 0)
def vOf (r : Rt) (e : Int) : Vl := cond (decide (e = 0)) (vNum r) (cond (decide (e = 5)) (vFault 1) (vFault 5))
theorem xvNum (r : Rt) : value_Num r = some (vNum r) := by
  rw [value_Num_eq, xRight, Option.bind_some, xROf 0 (by omega) (by omega), Option.bind_some, vNum, well, show ofI 0 = (false, [], [1]) by unfold ofI; rw [Int.natAbs_zero, nat_zero]; rfl]
  simp only [value_Num_1_eq]
  cases right r <;> rfl
theorem yvNum (r : Rt) : abacistref08_Num r = some (vNum r) := by rw [abacistref08_Num_eq, yWell]; rfl
theorem nameV_nil (n : Int) : decide (nameV n = []) = !isF n := by
  unfold nameV
  cases hf : isF n with
  | true => rcases isF_cases hf with h | h | h | h | h | h | h <;> subst h <;> rfl
  | false => rfl
theorem xvFault (n : Int) : value_Fault n = some (vFault n) := by
  rw [value_Fault_eq, xName, Option.bind_some, nameV_nil, vFault]
  simp only [value_Fault_1_eq]
  cases isF n <;> rfl
theorem yvFault (n : Int) : abacistref08_Fault n = some (vFault n) := by
  rw [abacistref08_Fault_eq, vFault]
  simp only [abacistref08_Fault_1_eq, abacistref08_Fault_2_eq]
  cases hf : isF n with
  | true => rcases isF_cases hf with h | h | h | h | h | h | h <;> subst h <;> rfl
  | false =>
    rcases isF_not hf with h | h
    · rw [cT (decide_eq_true h)]; rfl
    · rw [cF (decide_eq_false (by omega)), decide_eq_true (show n > 7 by omega)]; rfl
theorem xvText (s : List UInt8) (hs : s.length ≤ 9223372036854775807) : value_Text s = some (vText s) := by
  rw [value_Text_eq, xPlain s hs, Option.bind_some, xvFault, Option.bind_some, vText]
  cases plainV s <;> rfl
theorem yvText (s : List UInt8) : abacistref08_Text s = some (vText s) := by
  rw [abacistref08_Text_eq, yPlain s, Option.bind_some, yvFault, Option.bind_some, vText]
  cases plainV s <;> rfl
theorem xvTruth (b : Bool) : value_Truth b = some (vTruth b) := value_Truth_eq b
theorem yvTruth (b : Bool) : abacistref08_Truth b = some (vTruth b) := abacistref08_Truth_eq b
/-! ### which values can be -/
def vRight (v : Vl) : Bool :=
  cond (decide (v.1 = 0)) (decide (v = blank)) (cond (decide (v.1 = 1)) (decide (v = vNum v.2.1)) (cond (decide (v.1 = 2)) (decide (v = vText v.2.2.1)) (cond (decide (v.1 = 3)) (decide (v = vTruth v.2.2.2.1)) (cond (decide (v.1 = 4)) (decide (v = vFault v.2.2.2.2)) false))))
theorem xvRight (v : Vl) (hs : v.2.2.1.length ≤ 9223372036854775807) : value_Right v = some (vRight v) := by
  rw [value_Right_eq, xvNum, xvText _ hs, xvTruth, xvFault, vRight]
  simp only [Option.bind_some]
  show cond _ (some (eqV v blank)) (cond _ (some (eqV v (vNum v.2.1))) (cond _ (some (eqV v (vText v.2.2.1))) (cond _ (some (eqV v (vTruth v.2.2.2.1))) (cond _ (some (eqV v (vFault v.2.2.2.2))) _)))) = _
  simp only [eqV_eq]
  cases decide (v.1 = 0) <;> cases decide (v.1 = 1) <;> cases decide (v.1 = 2) <;> cases decide (v.1 = 3) <;> cases decide (v.1 = 4) <;> rfl
theorem well_iff (r : Rt) : well r = r ↔ right r = true := by
  constructor
  · intro h; rw [← h]; exact right_well r
  · exact well_of_right
theorem yvRight (v : Vl) : abacistref08_Right v = some (vRight v) := by
  rw [abacistref08_Right_eq, yRight, yPlain, Option.bind_some, Option.bind_some, vRight]
  show cond _ (some (eqV v blank)) (cond _ (cond (right v.2.1) (some (eqV v (1, v.2.1, [], false, 0))) _) (cond _ (cond (plainV v.2.2.1) (some (eqV v (2, (false, [], []), v.2.2.1, false, 0))) _) (cond _ (some (eqV v (3, (false, [], []), [], v.2.2.2.1, 0))) (cond _ (cond _ (cond _ (some (eqV v (4, (false, [], []), [], false, v.2.2.2.2))) _) _) _)))) = _
  simp only [eqV_eq]
  by_cases h0 : v.1 = 0
  · rw [cT (decide_eq_true h0), cT (decide_eq_true h0)]
  rw [cF (decide_eq_false h0), cF (decide_eq_false h0)]
  by_cases h1 : v.1 = 1
  · rw [cT (decide_eq_true h1), cT (decide_eq_true h1)]
    cases hr : right v.2.1 with
    | true => rw [cond_true, vNum, well_of_right hr]
    | false =>
      rw [cond_false, decide_eq_false]
      intro h
      have h' := congrArg (fun x : Vl => x.2.1) h
      simp only [vNum] at h'
      rw [(well_iff _).1 h'.symm] at hr; cases hr
  rw [cF (decide_eq_false h1), cF (decide_eq_false h1)]
  by_cases h2 : v.1 = 2
  · rw [cT (decide_eq_true h2), cT (decide_eq_true h2)]
    cases hr : plainV v.2.2.1 with
    | true => rw [cond_true, vText, hr, cond_true]
    | false =>
      rw [cond_false, decide_eq_false]
      intro h
      have h' := congrArg (fun x : Vl => x.1) h
      simp only [vText, hr, cond_false, vFault] at h'
      omega
  rw [cF (decide_eq_false h2), cF (decide_eq_false h2)]
  by_cases h3 : v.1 = 3
  · rw [cT (decide_eq_true h3), cT (decide_eq_true h3)]; rfl
  rw [cF (decide_eq_false h3), cF (decide_eq_false h3)]
  by_cases h4 : v.1 = 4
  · rw [cT (decide_eq_true h4), cT (decide_eq_true h4)]
    cases hr : isF v.2.2.2.2 with
    | true =>
      have hr' := isF_cases hr
      rw [cT (decide_eq_true (by omega)), cT (decide_eq_true (by omega)), vFault, hr, cond_true]
    | false =>
      have hne : decide (v = vFault v.2.2.2.2) = false := by
        refine decide_eq_false fun h => ?_
        have h' := congrArg (fun x : Vl => x.2.2.2.2) h
        simp only [vFault, hr, cond_false] at h'
        rw [h'] at hr; cases hr
      rw [hne]
      rcases isF_not hr with h | h
      · rw [cF (decide_eq_false (by omega))]
      · rw [cT (decide_eq_true (by omega)), cF (decide_eq_false (by omega))]
  rw [cF (decide_eq_false h4), cF (decide_eq_false h4)]
/-! ### how they are seen -/
def textR (r : Rt) : List UInt8 := textF (well r).1 (val (well r).2.1) (val (well r).2.2)
def tTRUE : List UInt8 := [84, 82, 85, 69]
def tFALSE : List UInt8 := [70, 65, 76, 83, 69]
def vShow (v : Vl) : List UInt8 := cond (!vRight v) [] (cond (decide (v.1 = 1)) (textR v.2.1) (cond (decide (v.1 = 3)) (cond v.2.2.2.1 tTRUE tFALSE) (cond (decide (v.1 = 4)) (nameV v.2.2.2.2) v.2.2.1)))
theorem right_kind {v : Vl} (h : vRight v = true) : v.1 = 0 ∨ v.1 = 1 ∨ v.1 = 2 ∨ v.1 = 3 ∨ v.1 = 4 := by
  by_cases h0 : v.1 = 0
  · exact .inl h0
  by_cases h1 : v.1 = 1
  · exact .inr (.inl h1)
  by_cases h2 : v.1 = 2
  · exact .inr (.inr (.inl h2))
  by_cases h3 : v.1 = 3
  · exact .inr (.inr (.inr (.inl h3)))
  by_cases h4 : v.1 = 4
  · exact .inr (.inr (.inr (.inr h4)))
  unfold vRight at h
  rw [decide_eq_false h0, decide_eq_false h1, decide_eq_false h2, decide_eq_false h3, decide_eq_false h4] at h
  cases h
theorem right0 {v : Vl} (h : vRight v = true) (hk : v.1 = 0) : v = blank := by
  unfold vRight at h
  rw [decide_eq_true hk] at h
  exact of_decide_eq_true h
theorem right1 {v : Vl} (h : vRight v = true) (hk : v.1 = 1) : v = vNum v.2.1 := by
  unfold vRight at h
  rw [decide_eq_false (show ¬ v.1 = 0 by omega), decide_eq_true hk] at h
  exact of_decide_eq_true h
theorem right2 {v : Vl} (h : vRight v = true) (hk : v.1 = 2) : v = vText v.2.2.1 := by
  unfold vRight at h
  rw [decide_eq_false (show ¬ v.1 = 0 by omega), decide_eq_false (show ¬ v.1 = 1 by omega), decide_eq_true hk] at h
  exact of_decide_eq_true h
theorem right3 {v : Vl} (h : vRight v = true) (hk : v.1 = 3) : v = vTruth v.2.2.2.1 := by
  unfold vRight at h
  rw [decide_eq_false (show ¬ v.1 = 0 by omega), decide_eq_false (show ¬ v.1 = 1 by omega), decide_eq_false (show ¬ v.1 = 2 by omega), decide_eq_true hk] at h
  exact of_decide_eq_true h
theorem right4 {v : Vl} (h : vRight v = true) (hk : v.1 = 4) : v = vFault v.2.2.2.2 := by
  unfold vRight at h
  rw [decide_eq_false (show ¬ v.1 = 0 by omega), decide_eq_false (show ¬ v.1 = 1 by omega), decide_eq_false (show ¬ v.1 = 2 by omega), decide_eq_false (show ¬ v.1 = 3 by omega), decide_eq_true hk] at h
  exact of_decide_eq_true h
end Go.Proofs.YtljapieoihecbaaGreatDoor.D

/- Texts of cells: plain Lean; the program's and the reference's; the two laws of values. -/
set_option linter.unusedVariables false
set_option linter.unusedSimpArgs false
namespace Go.Proofs.YtljapieoihecbaaGreatDoor.D
open Go Go.Proofs.YtljapieoihecbaaGreatDoor.K
open Go.Proofs.YtljapieoihecbaaGreatDoor.P (nat val val_nat nat_zero nat_eq_nil nat_inj nat_one wS inC dv good dig dig_le decT decT_good decT_ne)
def litV (s : List UInt8) : Vl × Int :=
  cond (decide (s.length > 300)) (blank, 9) (cond (decide (s = [])) (blank, 0) (cond (decide (s = tTRUE) || decide (s = tFALSE)) (vTruth (decide (s = tTRUE)), 0)
    (cond (namedV s).2 (vFault (namedV s).1, 0) (cond (decide ((parseN s).2 = 0)) (vNum (parseN s).1, 0) (cond (plainV (preV 39 s).1) (vText (preV 39 s).1, 0) (blank, 10))))))
theorem xvLit (s : List UInt8) : value_Literal s = some (litV s) := by
  rw [value_Literal_eq, litV]
  by_cases hl : s.length > 300
  · rw [cT (decide_eq_true (by omega)), decide_eq_true hl]; rfl
  rw [cF (decide_eq_false (by omega)), cF (decide_eq_false hl)]
  by_cases h0 : s = []
  · rw [cT (decide_eq_true h0), cT (decide_eq_true h0)]; rfl
  rw [cF (decide_eq_false h0), cF (decide_eq_false h0)]
  have hp := pre_len 39 s
  have tail : value_Literal_1 s false blank = some (cond (namedV s).2 (vFault (namedV s).1, 0) (cond (decide ((parseN s).2 = 0)) (vNum (parseN s).1, 0) (cond (plainV (preV 39 s).1) (vText (preV 39 s).1, 0) (blank, 10)))) := by
    rw [value_Literal_1_eq, cond_false, xNamed, Option.bind_some, xvFault, Option.bind_some, xParseN s (by omega), Option.bind_some, xvNum, Option.bind_some, xPre, Option.bind_some, xPlain _ (by omega), Option.bind_some, xvText _ (by omega), Option.bind_some]
    cases (namedV s).2 <;> cases decide ((parseN s).2 = 0) <;> cases plainV (preV 39 s).1 <;> rfl
  have head : ∀ b, value_Literal_1 s true b = some (vTruth (decide (s = tTRUE)), 0) := by
    intro b
    rw [value_Literal_1_eq, cond_true, xvTruth]; rfl
  show cond (decide (s = tTRUE)) (value_Literal_1 s true blank) (value_Literal_1 s (decide (s = tFALSE)) blank) = _
  by_cases h1 : s = tTRUE
  · rw [cT (decide_eq_true h1), head, decide_eq_true h1]; rfl
  · rw [cF (decide_eq_false h1), decide_eq_false h1, Bool.false_or]
    by_cases h2 : s = tFALSE
    · rw [decide_eq_true h2, head, decide_eq_false h1]; rfl
    · rw [decide_eq_false h2, cond_false]
      exact tail
theorem show_len (v : Vl) : (vShow v).length ≤ 200 := by
  unfold vShow
  cases hr : vRight v with
  | false => simp
  | true =>
    rcases right_kind hr with h | h | h | h | h
    · rw [right0 hr h]; simp [blank]
    · rw [h]
      obtain ⟨s, n, d, e, f⟩ := well_form v.2.1
      have := text_len f
      simp only [Bool.not_true, cond_false, decide_true, cond_true, textR, e, val_nat]
      omega
    · have hv := right2 hr h
      rw [h]
      simp only [Bool.not_true, cond_false]
      cases hp : plainV v.2.2.1 with
      | true =>
        unfold plainV at hp
        simp only [Bool.and_eq_true, decide_eq_true_eq] at hp
        exact hp.2
      | false =>
        rw [vText, hp, cond_false] at hv
        have := congrArg (fun x : Vl => x.1) hv
        simp only [vFault] at this
        omega
    · rw [h]
      cases v.2.2.2.1 <;> simp [tTRUE, tFALSE]
    · rw [h]
      simp only [Bool.not_true, cond_false]
      unfold nameV
      cases hf : isF v.2.2.2.2 with
      | false => simp
      | true => rcases isF_cases hf with h | h | h | h | h | h | h <;> rw [h] <;> simp [namesL]
def contV (v : Vl) : List UInt8 × Int :=
  cond (!vRight v) ([], 3) (cond (!decide (v.1 = 2)) (vShow v, 0) (cond (!(decide ((litV (vShow v)).2 = 0) && decide ((litV (vShow v)).1 = v)) || (preV 61 (vShow v)).2) (39 :: vShow v, 0) (vShow v, 0)))
/-! ### what is read can be -/
theorem right_num (r : Rt) : vRight (vNum r) = true := by
  unfold vRight vNum
  rw [well_well]
  simp
theorem right_fault {n : Int} (h : isF n = true) : vRight (vFault n) = true := by
  unfold vRight vFault
  rw [h]
  simp [h]
theorem right_truth (b : Bool) : vRight (vTruth b) = true := by
  unfold vRight vTruth
  simp
theorem right_text {s : List UInt8} (h : plainV s = true) : vRight (vText s) = true := by
  unfold vRight vText
  rw [h]
  simp [h]
theorem lit_right (s : List UInt8) : (litV s).2 = 0 → vRight (litV s).1 = true := by
  unfold litV
  cases decide (s.length > 300) with
  | true => intro h; cases h
  | false =>
    rw [cond_false]
    cases decide (s = []) with
    | true => intro _; rfl
    | false =>
      rw [cond_false]
      cases decide (s = tTRUE) || decide (s = tFALSE) with
      | true => intro _; exact right_truth _
      | false =>
        rw [cond_false]
        cases hn : (namedV s).2 with
        | true => intro _; exact right_fault (namedF_spec s 7 1 (Nat.le_refl _) rfl hn).1
        | false =>
          rw [cond_false]
          cases hp : decide ((parseN s).2 = 0) with
          | true => intro _; exact right_num _
          | false =>
            rw [cond_false]
            cases hq : plainV (preV 39 s).1 with
            | true => intro _; exact right_text hq
            | false => intro h; cases h
theorem not_named {s : List UInt8} {b : UInt8} (h : s.head? = some b) (hb : b ≠ 35) : (namedV s).2 = false := by
  cases hn : (namedV s).2 with
  | false => rfl
  | true => rw [named_hash hn] at h; cases h; exact absurd rfl hb
theorem head_ne {s t : List UInt8} {b c : UInt8} (h : s.head? = some b) (k : t.head? = some c) (hb : b ≠ c) : decide (s = t) = false := decide_eq_false fun e => by rw [e, k] at h; cases h; exact hb rfl
theorem head_nil {s : List UInt8} {b : UInt8} (h : s.head? = some b) : decide (s = []) = false := decide_eq_false fun e => by rw [e] at h; cases h
theorem text_head {s : Bool} {n d : Nat} (f : Fm s n d) : ∃ b, (textF s n d).head? = some b ∧ (b = 45 ∨ (48 ≤ b.toNat ∧ b.toNat ≤ 57)) := by
  have hdig : ∀ t : List UInt8, good t = true → t ≠ [] → ∃ b, t.head? = some b ∧ (b = 45 ∨ (48 ≤ b.toNat ∧ b.toNat ≤ 57)) := by
    intro t hg h0
    cases t with
    | nil => exact absurd rfl h0
    | cons b t => exact ⟨b, rfl, .inr (dig_le (good_mem hg (by simp)))⟩
  have happ : ∀ t u : List UInt8, t ≠ [] → (t ++ u).head? = t.head? := by
    intro t u h
    cases t with
    | nil => exact absurd rfl h
    | cons b t => rfl
  unfold textF
  cases s with
  | true => exact ⟨45, rfl, .inl rfl⟩
  | false =>
    rw [show (cond false [45] [] : List UInt8) = [] from rfl, List.nil_append]
    cases (endsN d).2 && decide ((endsN d).1 ≤ 20) with
    | false =>
      rw [cond_false, List.append_assoc, happ _ _ (decT_ne n)]
      exact hdig _ (decT_good n) (decT_ne n)
    | true =>
      rw [cond_true]
      unfold ptN
      split
      · exact hdig _ (decT_good _) (decT_ne _)
      · generalize hp : List.replicate ((endsN d).1 + 1 - (decT (n * 10 ^ (endsN d).1 / d)).length) 48 ++ decT (n * 10 ^ (endsN d).1 / d) = p
        have hgp : good p = true := by rw [← hp, good_append, good_zeros, decT_good]; rfl
        have hl : (endsN d).1 + 1 ≤ p.length := by rw [← hp]; simp; omega
        have n1 : p.take (p.length - (endsN d).1) ≠ [] := fun e => by have := congrArg List.length e; simp at this; omega
        rw [List.append_assoc, happ _ _ n1]
        exact hdig _ (good_take hgp _) n1
theorem lit_num (r : Rt) : litV (textR r) = (vNum r, 0) := by
  obtain ⟨s, n, d, e, f⟩ := well_form r
  have hl := text_len f
  have ht : textR r = textF s n d := by rw [textR, e]; simp only [val_nat]
  obtain ⟨b, hb, hb2⟩ := text_head f
  have n1 : b ≠ 84 := by rintro rfl; simp at hb2
  have n2 : b ≠ 70 := by rintro rfl; simp at hb2
  have n3 : b ≠ 35 := by rintro rfl; simp at hb2
  rw [ht, litV, decide_eq_false (by omega), head_nil hb, head_ne hb (show tTRUE.head? = some 84 from rfl) n1, head_ne hb (show tFALSE.head? = some 70 from rfl) n2, not_named hb n3, parse_text f]
  simp only [cond_false, Bool.or_false, decide_true, cond_true, vNum]
  rw [← e, well_well]
theorem lit_truth (b : Bool) : litV (cond b tTRUE tFALSE) = (vTruth b, 0) := by cases b <;> rfl
theorem named_name {n : Int} (h : isF n = true) : namedV (nameV n) = (n, true) := by
  rcases isF_cases h with h | h | h | h | h | h | h <;> subst h <;> decide
theorem lit_fault {n : Int} (h : isF n = true) : litV (nameV n) = (vFault n, 0) := by
  have hn := named_name h
  have hh : (nameV n).head? = some 35 := named_hash (by rw [hn])
  have hl : (nameV n).length ≤ 10 := by rcases isF_cases h with h | h | h | h | h | h | h <;> subst h <;> decide
  rw [litV, decide_eq_false (by omega), head_nil hh, head_ne hh (show tTRUE.head? = some 84 from rfl) (by decide), head_ne hh (show tFALSE.head? = some 70 from rfl) (by decide), hn]
  rfl
theorem not_parse (s : List UInt8) : decide ((parseN (39 :: s)).2 = 0) = false := by
  have hd : dig 39 = false := rfl
  have hg : ∀ t, good (39 :: t) = false := fun t => by unfold good; rw [List.all_cons, hd]; rfl
  have hb : (bodyV (39 :: s)).2 = 10 := by
    unfold bodyV
    cases hc : (cutV 47 (39 :: s)).2.2 with
    | true =>
      rw [cond_true]
      have : ∃ t, (cutV 47 (39 :: s)).1 = 39 :: t := by
        unfold cutV at hc ⊢
        simp only [pos] at hc ⊢
        rw [if_neg (by decide)] at hc ⊢
        cases hp : pos 47 s with
        | none => rw [hp] at hc; cases hc
        | some k => exact ⟨s.take k, by simp⟩
      obtain ⟨t, ht⟩ := this
      rw [fracV, ht, show parseV (39 :: t) = ([], 3) by rw [parseV, if_pos (.inr (hg t))]]
      rfl
    | false =>
      rw [cond_false, decV]
      have : ∃ t, (cutV 46 (39 :: s)).1 = 39 :: t := by
        unfold cutV
        simp only [pos]
        rw [if_neg (by decide)]
        cases hp : pos 46 s with
        | none => exact ⟨s, rfl⟩
        | some k => exact ⟨s.take k, by simp⟩
      obtain ⟨t, ht⟩ := this
      rw [ht, show dg (39 :: t) = false by unfold dg; rw [hg]; rfl]
      rfl
  have hp : preV 45 (39 :: s) = (39 :: s, false) := by rw [preV, if_neg (by decide)]
  rw [parseN, hp]
  simp only
  rw [Bool.and_false, cond_false, hb]; rfl
theorem lit_quote {s : List UInt8} (h : plainV s = true) : litV (39 :: s) = (vText s, 0) := by
  have hl : s.length ≤ 200 := by
    unfold plainV at h
    simp only [Bool.and_eq_true, decide_eq_true_eq] at h
    exact h.2
  have hh : (39 :: s).head? = some 39 := rfl
  rw [litV, decide_eq_false (by simp; omega), head_nil hh, head_ne hh (show tTRUE.head? = some 84 from rfl) (by decide), head_ne hh (show tFALSE.head? = some 70 from rfl) (by decide), not_named hh (by decide), not_parse, show preV 39 (39 :: s) = (s, true) from rfl]
  simp only [h, cond_false, cond_true, Bool.or_false]
theorem cont_lit {v : Vl} (hr : vRight v = true) : litV (contV v).1 = (v, 0) := by
  have hs : vShow v = cond (decide (v.1 = 1)) (textR v.2.1) (cond (decide (v.1 = 3)) (cond v.2.2.2.1 tTRUE tFALSE) (cond (decide (v.1 = 4)) (nameV v.2.2.2.2) v.2.2.1)) := by unfold vShow; rw [hr]; rfl
  rw [contV, hr, Bool.not_true, cond_false]
  rcases right_kind hr with h | h | h | h | h
  · rw [h]
    simp only [show (!decide ((0 : Int) = 2)) = true from rfl, cond_true]
    rw [hs, h, right0 hr h]; rfl
  · rw [h]
    simp only [show (!decide ((1 : Int) = 2)) = true from rfl, cond_true]
    rw [hs, h]
    simp only [decide_true, cond_true]
    rw [lit_num, ← right1 hr h]
  · rw [h]
    have hv := right2 hr h
    have hp : plainV v.2.2.1 = true := by
      cases hp : plainV v.2.2.1 with
      | true => rfl
      | false =>
        rw [vText, hp, cond_false] at hv
        have := congrArg (fun x : Vl => x.1) hv
        simp only [vFault] at this
        omega
    have hs2 : vShow v = v.2.2.1 := by rw [hs, h]; rfl
    simp only [decide_true, Bool.not_true, cond_false]
    cases hl : decide ((litV (vShow v)).2 = 0) && decide ((litV (vShow v)).1 = v) with
    | true =>
      simp only [Bool.and_eq_true, decide_eq_true_eq] at hl
      rw [Bool.not_true, Bool.false_or]
      cases (preV 61 (vShow v)).2 with
      | false =>
        rw [cond_false]
        exact Prod.ext hl.2 hl.1
      | true =>
        rw [cond_true]
        simp only
        rw [hs2, lit_quote hp, ← hv]
    | false =>
      rw [Bool.not_false, Bool.true_or, cond_true]
      simp only
      rw [hs2, lit_quote hp, ← hv]
  · rw [h]
    simp only [show (!decide ((3 : Int) = 2)) = true from rfl, cond_true]
    rw [hs, h]
    simp only [show decide ((3 : Int) = 1) = false from rfl, cond_false, decide_true, cond_true]
    rw [lit_truth, ← right3 hr h]
  · rw [h]
    have hv := right4 hr h
    have hf : isF v.2.2.2.2 = true := by
      cases hf : isF v.2.2.2.2 with
      | true => rfl
      | false =>
        have := congrArg (fun x : Vl => x.2.2.2.2) hv
        simp only [vFault, hf, cond_false] at this
        rw [this] at hf; cases hf
    simp only [show (!decide ((4 : Int) = 2)) = true from rfl, cond_true]
    rw [hs, h]
    simp only [show decide ((4 : Int) = 1) = false from rfl, show decide ((4 : Int) = 3) = false from rfl, cond_false, decide_true, cond_true]
    rw [lit_fault hf, ← hv]
/-! ### the laws -/
theorem eqV_self (v : Vl) : eqV v v = true := by rw [eqV_eq]; exact decide_eq_true rfl
end Go.Proofs.YtljapieoihecbaaGreatDoor.D
namespace Go.Proofs.YtljapieoihecbaaGreatDoor.K
open Go
end Go.Proofs.YtljapieoihecbaaGreatDoor.K

/- Values as others: plain Lean; the program's and the reference's; two of the laws. -/
set_option linter.unusedVariables false
set_option linter.unusedSimpArgs false
namespace Go.Proofs.YtljapieoihecbaaGreatDoor.D
open Go Go.Proofs.YtljapieoihecbaaGreatDoor.K
open Go.Proofs.YtljapieoihecbaaGreatDoor.P (nat val val_nat nat_zero nat_eq_nil nat_inj nat_one wS inC dv good dig dig_le decT decT_good decT_ne)
def cFault (v : Vl) : Int := cond (vRight v) v.2.2.2.2 2
theorem right_len {v : Vl} (h : vRight v = true) : v.2.2.1.length ≤ 200 := by
  have h2 := show_len v
  rcases right_kind h with k | k | k | k | k
  · rw [right0 h k]; simp [blank]
  · rw [right1 h k]; simp [vNum]
  · have : vShow v = v.2.2.1 := by unfold vShow; rw [h, k]; rfl
    rw [← this]; omega
  · rw [right3 h k]; simp [vTruth]
  · rw [right4 h k]; simp [vFault]
theorem xcFault (v : Vl) (hs : v.2.2.1.length ≤ 9223372036854775807) : coerce_cell_fault v = some (cFault v) := by
  rw [coerce_cell_fault_eq, xvRight v hs, Option.bind_some, cFault]
  cases vRight v <;> rfl
theorem ycFault (v : Vl) : abacistref09_fault v = some (cFault v) := by
  rw [abacistref09_fault_eq, yvRight v, Option.bind_some, cFault]
  cases vRight v <;> rfl
theorem fault_right {v : Vl} (h : cFault v = 0) : vRight v = true := by
  unfold cFault at h
  cases hr : vRight v with
  | true => rfl
  | false => rw [hr] at h; cases h
theorem fault_kind {v : Vl} (h : cFault v = 0) : v = blank ∨ v = vNum v.2.1 ∨ (v = vText v.2.2.1 ∧ plainV v.2.2.1 = true ∧ v.1 = 2) ∨ v = vTruth v.2.2.2.1 := by
  have hr := fault_right h
  rcases right_kind hr with k | k | k | k | k
  · exact .inl (right0 hr k)
  · exact .inr (.inl (right1 hr k))
  · refine .inr (.inr (.inl ⟨right2 hr k, ?_, k⟩))
    cases hp : plainV v.2.2.1 with
    | true => rfl
    | false =>
      have hv := right2 hr k
      rw [vText, hp, cond_false] at hv
      have := congrArg (fun x : Vl => x.1) hv
      simp only [vFault] at this
      omega
  · exact .inr (.inr (.inr (right3 hr k)))
  · exfalso
    have hv := right4 hr k
    unfold cFault at h
    rw [hr, cond_true] at h
    have := congrArg (fun x : Vl => x.2.2.2.2) hv
    simp only [vFault] at this
    rw [h, show isF 0 = false from rfl, cond_false] at this
    cases this
def numV (v : Vl) : Rt × Int :=
  cond (!decide (cFault v = 0)) (z0, cFault v) (cond (decide (v.1 = 1)) (v.2.1, 0) (cond (decide (v.1 = 2)) (cond (!decide ((parseN v.2.2.1).2 = 0)) (z0, 2) ((parseN v.2.2.1).1, 0)) (ofI (cond v.2.2.2.1 1 0), 0)))
theorem xcNum (v : Vl) (hs : v.2.2.1.length ≤ 9223372036854775807) : coerce_Num v = some (numV v) := by
  rw [coerce_Num_eq, xcFault v hs, Option.bind_some, numV]
  by_cases h : cFault v = 0
  · have hl := right_len (fault_right h)
    simp only [h, decide_true, Bool.not_true, cond_false]
    rw [xParseN _ (by omega), Option.bind_some, coerce_bit_eq]
    have e : (cond v.2.2.2.1 (some 1) (some 0) : Option Int).bind (fun v3 => (rat_Of v3).bind fun v4 => some (v4, (0 : Int))) = some (ofI (cond v.2.2.2.1 1 0), 0) := by
      cases v.2.2.2.1
      · show (rat_Of 0).bind _ = _
        rw [xROf 0 (by omega) (by omega)]; rfl
      · show (rat_Of 1).bind _ = _
        rw [xROf 1 (by omega) (by omega)]; rfl
    rw [e]
    cases decide (v.1 = 1) <;> cases decide (v.1 = 2) <;> cases decide ((parseN v.2.2.1).2 = 0) <;> rfl
  · rw [cT (by rw [decide_eq_false h]; rfl), cT (by rw [decide_eq_false h]; rfl)]; rfl
theorem ycNum (v : Vl) : abacistref09_Num v = some (numV v) := by
  rw [abacistref09_Num_eq, ycFault v, Option.bind_some, Option.bind_some, numV]
  by_cases h : cFault v = 0
  · have hl := right_len (fault_right h)
    simp only [h, decide_true, Bool.not_true, cond_false]
    rw [yParseN _ (by omega), Option.bind_some, yROf 0 (by omega) (by omega), yROf 1 (by omega) (by omega)]
    rcases fault_kind h with k | k | ⟨k, _, k2⟩ | k
    · rw [k]; rfl
    · rw [k]; rfl
    · rw [k2]
      cases decide ((parseN v.2.2.1).2 = 0) <;> rfl
    · rw [k]; cases v.2.2.2.1 <;> rfl
  · rw [cT (by rw [decide_eq_false h]; rfl), cT (by rw [decide_eq_false h]; rfl)]; rfl
def ctextV (v : Vl) : List UInt8 × Int := cond (!decide (cFault v = 0)) ([], cFault v) (vShow v, 0)
def truthV (v : Vl) : Bool × Int :=
  cond (!decide (cFault v = 0)) (false, cFault v) (cond (decide (v.1 = 1)) (!decide (signR (well v.2.1) = 0), 0) (cond (decide (v.1 = 2)) (cond (decide (v.2.2.1 = tTRUE) || decide (v.2.2.1 = tFALSE)) (decide (v.2.2.1 = tTRUE), 0) (false, 2)) (v.2.2.2.1, 0)))
theorem lit_truth_kind {s : List UInt8} (hl : s.length ≤ 300) : (decide ((litV s).2 = 0) && decide ((litV s).1.1 = 3)) = (decide (s = tTRUE) || decide (s = tFALSE)) := by
  unfold litV
  rw [decide_eq_false (by omega : ¬ s.length > 300), cond_false]
  by_cases h0 : s = []
  · subst h0; rfl
  · rw [decide_eq_false h0, cond_false]
    cases decide (s = tTRUE) || decide (s = tFALSE) with
    | true => rfl
    | false =>
      rw [cond_false]
      cases (namedV s).2 with
      | true => rfl
      | false =>
        rw [cond_false]
        cases decide ((parseN s).2 = 0) with
        | true => rfl
        | false =>
          rw [cond_false]
          cases hp : plainV (preV 39 s).1 with
          | true => rw [cond_true, vText, hp]; rfl
          | false => rfl
theorem xcTruth (v : Vl) (hs : v.2.2.1.length ≤ 9223372036854775807) : coerce_Truth v = some (truthV v) := by
  rw [coerce_Truth_eq, xcFault v hs, Option.bind_some, truthV]
  by_cases h : cFault v = 0
  · have hl := right_len (fault_right h)
    have hk := lit_truth_kind (s := v.2.2.1) (by omega)
    simp only [h, decide_true, Bool.not_true, cond_false]
    rw [xSign, Option.bind_some, xvLit, Option.bind_some, ← hk]
    simp only [coerce_Truth_1_eq]
    cases decide (v.1 = 1) <;> cases decide (v.1 = 2) <;> cases decide ((litV v.2.2.1).2 = 0) <;> cases decide ((litV v.2.2.1).1.1 = 3) <;> rfl
  · rw [cT (by rw [decide_eq_false h]; rfl), cT (by rw [decide_eq_false h]; rfl)]
theorem ycTruth (v : Vl) : abacistref09_Truth v = some (truthV v) := by
  rw [abacistref09_Truth_eq, ycFault v, Option.bind_some, Option.bind_some, truthV, ySign, Option.bind_some]
  simp only [abacistref09_Truth_1_eq]
  show cond _ _ (cond _ _ (cond _ (cond (!decide (v.2.2.1 = tTRUE)) (cond (!decide (v.2.2.1 = tFALSE)) _ (some (decide (v.2.2.1 = tTRUE), 0))) (cond false _ (some (decide (v.2.2.1 = tTRUE), 0)))) _)) = _
  cases decide (cFault v = 0) <;> cases decide (v.1 = 1) <;> cases decide (v.1 = 2) <;> cases decide (v.2.2.1 = tTRUE) <;> cases decide (v.2.2.1 = tFALSE) <;> rfl
/-! ### a number, as a text, is that number again -/
theorem plain_dig {c : UInt8} (h : dig c = true) : pl1 c = true := by
  have := dig_le h
  unfold pl1
  simp; omega
theorem plain_good {s : List UInt8} (h : good s = true) : s.all pl1 = true := List.all_eq_true.2 fun x hx => plain_dig (good_mem h hx)
theorem plain_textF {s : Bool} {n d : Nat} (f : Fm s n d) : plainV (textF s n d) = true := by
  have hl := text_len f
  unfold plainV
  rw [decide_eq_true (show (textF s n d).length ≤ 200 by omega), Bool.and_true]
  unfold textF
  rw [List.all_append]
  have h1 : (cond s [45] [] : List UInt8).all pl1 = true := by cases s <;> rfl
  rw [h1, Bool.true_and]
  cases (endsN d).2 && decide ((endsN d).1 ≤ 20) with
  | false =>
    rw [cond_false, List.all_append, List.all_append, plain_good (decT_good n), plain_good (decT_good d)]; rfl
  | true =>
    rw [cond_true]
    unfold ptN
    split
    · exact plain_good (decT_good _)
    · generalize hp : List.replicate ((endsN d).1 + 1 - (decT (n * 10 ^ (endsN d).1 / d)).length) 48 ++ decT (n * 10 ^ (endsN d).1 / d) = p
      have hgp : good p = true := by rw [← hp, good_append, good_zeros, decT_good]; rfl
      rw [List.all_append, List.all_append, plain_good (good_take hgp _), plain_good (good_dropT hgp _)]; rfl
theorem num_text (r : Rt) : numV (vText (textR r)) = (well r, 0) := by
  obtain ⟨s, n, d, e, f⟩ := well_form r
  have ht : textR r = textF s n d := by rw [textR, e]; simp only [val_nat]
  have hp := plain_textF f
  have hr := right_text hp
  have hv : vText (textF s n d) = (2, (false, [], []), textF s n d, false, 0) := by rw [vText, hp]; rfl
  have hf : cFault (vText (textF s n d)) = 0 := by unfold cFault; rw [hr, hv]; rfl
  rw [ht, numV, hf, hv]
  simp only [decide_true, Bool.not_true, cond_false, show decide ((2 : Int) = 1) = false from rfl, cond_true]
  rw [parse_text f, e]; rfl
def eqR (a b : Rt) : Bool := (a.1 == b.1) && ((decide (a.2.1 = b.2.1)) && (decide (a.2.2 = b.2.2)))
theorem eqR_self (a : Rt) : eqR a a = true := by simp [eqR]
/-! ### order -/
def likeV (v : Vl) (k : Int) : Vl := cond (!decide (v.1 = 0)) v (cond (decide (k = 1)) (vNum (ofI 0)) (cond (decide (k = 2)) (vText []) (cond (decide (k = 3)) (vTruth false) v)))
theorem xLike (v : Vl) (k : Int) : coerce_like v k = some (likeV v k) := by
  rw [coerce_like_eq, xROf 0 (by omega) (by omega), Option.bind_some, xvNum, xvText _ (by simp), xvTruth, likeV]
  cases decide (v.1 = 0) <;> cases decide (k = 1) <;> cases decide (k = 2) <;> cases decide (k = 3) <;> rfl
theorem cmp_well (a b : Rt) : cmpR (well a) (well b) = cmpR a b := by unfold cmpR; rw [well_well, well_well]
theorem fault_num (r : Rt) : cFault (vNum r) = 0 := by unfold cFault; rw [right_num]; rfl
end Go.Proofs.YtljapieoihecbaaGreatDoor.D
namespace Go.Proofs.YtljapieoihecbaaGreatDoor.K
open Go
end Go.Proofs.YtljapieoihecbaaGreatDoor.K

/- FlogNames: the names are alike; plain Lean over the equations. -/
set_option linter.unusedVariables false
namespace Go.Proofs.YtljapieoihecbaaGreatDoor.D
open Go Go.Proofs.YtljapieoihecbaaGreatDoor.K
theorem known20 : abacistlaw20_known = some true := of_depth 400 (by kernel_rfl)
theorem names20_1 (i : Int) (l : List (List UInt8)) (b : Bool) (h : b = false → 0 ≤ i ∧ i < (l.length : Int)) : abacistlaw20_FlogNames_1 i l l b = some true := by
  rw [abacistlaw20_FlogNames_1_eq]
  cases b with
  | true => rw [cond_true, cT (decide_eq_true rfl), known20]; rfl
  | false =>
    obtain ⟨h1, h2⟩ := h rfl
    have hi : (decide (0 ≤ i) && decide (i < (l.length : Int))) = true := by rw [decide_eq_true h1, decide_eq_true h2]; rfl
    rw [cond_false, cT hi, cT hi, cT (decide_eq_true rfl), known20]; rfl
theorem names20 (i : Int) : abacistlaw20_FlogNames i = some true := by
  rw [abacistlaw20_FlogNames_eq, flog_Names_eq, abacistref20_Names_eq, Option.bind_some, Option.bind_some]
  generalize ([_, _, _, _, _, _, _, _, _, _, _, _, _, _, _, _, _, _, _, _, _, _] : List (List UInt8)) = l
  rw [cF (by rw [decide_eq_true rfl]; rfl)]
  by_cases h0 : i < 0
  · rw [cT (decide_eq_true h0)]; exact names20_1 i l true (fun h => by cases h)
  · rw [cF (decide_eq_false h0)]
    refine names20_1 i l _ fun h => ?_
    have h := of_decide_eq_false h
    omega
end Go.Proofs.YtljapieoihecbaaGreatDoor.D
namespace Go.Proofs.YtljapieoihecbaaGreatDoor.K
open Go
theorem FlogNames (i : Int) (_ : Wf (.int .i64) i) : abacistlaw20_FlogNames i = some true := D.names20 i
end Go.Proofs.YtljapieoihecbaaGreatDoor.K

/- FlogRules: plain Lean over the equations. -/
set_option linter.unusedVariables false
set_option linter.unusedSimpArgs false
namespace Go.Proofs.YtljapieoihecbaaGreatDoor.D
open Go Go.Proofs.YtljapieoihecbaaGreatDoor.K
abbrev Ar := List Vl × Int × Bool × Int × Int
def one1 (v : Vl) : Ar := ([v], 1, false, 0, 0)
theorem xOddF (v : Vl) (hv : v.2.2.1.length ≤ 9223372036854775807) : flog_odd (one1 v) = some (!vRight v) := by
  have e1 : flog_odd_4 [v] 1 1 = some false := by rw [flog_odd_4_eq]; rfl
  have et : (((one1 v).1.length : Int).tmod (one1 v).2.1) = 0 := by simp [one1]
  have eg : decide (((one1 v).1.length : Int) > 1) = false := rfl
  rw [flog_odd_eq, et, eg]
  show flog_odd_1 false (one1 v) = _
  rw [flog_odd_1_eq, cond_false, flog_odd_2_eq, flog_odd_3_eq, flog_odd_4_eq]
  show flog_odd_5 v [v] 0 1 0 = _
  rw [flog_odd_5_eq, xvRight v hv, Option.bind_some]
  cases vRight v with
  | false => rfl
  | true => exact e1
theorem xSingleF (v : Vl) : flog_single (one1 v) = some v := by rw [flog_single_eq]; rfl
def nIFERROR : List UInt8 := [73, 70, 69, 82, 82, 79, 82]
def nNOT : List UInt8 := [78, 79, 84]
def nOR : List UInt8 := [79, 82]
def nAND : List UInt8 := [65, 78, 68]
theorem limIFERROR : flog_limits nIFERROR = some (2, 2, true) := of_depth 60 (by kernel_rfl)
theorem xIfError (v w : Vl) (hv : v.2.2.1.length ≤ 9223372036854775807) (hw : w.2.2.1.length ≤ 9223372036854775807) : flog_Do nIFERROR [one1 v, one1 w] = some (cond (vRight v && vRight w) (cond (decide (v.1 = 4)) w v) (vFault 2)) := by
  have bad : flog_Do_1 nIFERROR [one1 v, one1 w] true (0, (false, [], []), [], false, 0) = some (vFault 2) := by rw [flog_Do_1_eq, cond_true, xvFault]; rfl
  have disp : flog_Do_3 nIFERROR [one1 v, one1 w] [one1 v, one1 w] 2 2 [v, w] (0, (false, [], []), [], false, 0) = some (cond (decide (v.1 = 4)) w v) := by
    have n9 : ∀ q, flog_Do_9 q [v, w] (0, (false, [], []), [], false, 0) = some (cond q w v) := fun q => by rw [flog_Do_9_eq]; cases q <;> rfl
    have ask : ∀ q, flog_asked_1 [73, 83, 78, 65] q v = some q := fun q => by rw [flog_asked_1_eq]; rfl
    rw [flog_Do_3_eq]
    show flog_Do_5 nIFERROR [one1 v, one1 w] nIFERROR false [v, w] _ = _
    rw [flog_Do_5_eq]
    show flog_Do_7 nIFERROR nIFERROR false [v, w] _ = _
    rw [flog_Do_7_eq]
    show flog_Do_8 nIFERROR nIFERROR true [v, w] _ = _
    rw [flog_Do_8_eq]
    show (flog_asked [73, 83, 78, 65] v).bind (fun v1 => cond v1 (flog_Do_9 true [v, w] _) (flog_Do_9 (decide (v.1 = 4)) [v, w] _)) = _
    rw [flog_asked_eq, ask, ask, n9, n9]
    cases decide (v.1 = 4) with
    | true => cases decide (v.2.2.2.2 = 6) <;> rfl
    | false => rfl
  have go : flog_Do_1 nIFERROR [one1 v, one1 w] false (0, (false, [], []), [], false, 0) = some (cond (decide (v.1 = 4)) w v) := by
    rw [flog_Do_1_eq, cond_false, flog_Do_3_eq]
    show (flog_single (one1 v)).bind (fun v1 => cond (Nat.ble ((0 + [v1].length) * 80) 140737488355328) (flog_Do_3 nIFERROR [one1 v, one1 w] [one1 v, one1 w] 2 1 ([] ++ [v1]) _) none) = _
    rw [xSingleF, Option.bind_some]
    show flog_Do_3 nIFERROR [one1 v, one1 w] [one1 v, one1 w] 2 1 [v] _ = _
    rw [flog_Do_3_eq]
    show (flog_single (one1 w)).bind (fun v1 => cond (Nat.ble ((1 + [v1].length) * 80) 140737488355328) (flog_Do_3 nIFERROR [one1 v, one1 w] [one1 v, one1 w] 2 2 ([v] ++ [v1]) _) none) = _
    rw [xSingleF, Option.bind_some]
    exact disp
  have e2 : flog_Do_6 [one1 v, one1 w] 2 2 (0, (false, [], []), [], false, 0) nIFERROR [one1 v, one1 w] false = some (cond (decide (v.1 = 4)) w v) := by
    rw [flog_Do_6_eq]
    exact go
  have e1 : flog_Do_6 [one1 v, one1 w] 2 1 (0, (false, [], []), [], false, 0) nIFERROR [one1 v, one1 w] false = some (cond (vRight w) (cond (decide (v.1 = 4)) w v) (vFault 2)) := by
    rw [flog_Do_6_eq]
    show (flog_odd (one1 w)).bind (fun v1 => cond v1 (flog_Do_1 nIFERROR [one1 v, one1 w] true _) (flog_Do_6 [one1 v, one1 w] 2 2 _ nIFERROR [one1 v, one1 w] false)) = _
    rw [xOddF w hw, Option.bind_some, bad, e2]
    cases vRight w <;> rfl
  rw [flog_Do_eq, limIFERROR, Option.bind_some]
  show flog_Do_2 [one1 v, one1 w] _ nIFERROR [one1 v, one1 w] false = _
  rw [flog_Do_2_eq, flog_Do_4_eq, flog_Do_6_eq]
  show (flog_odd (one1 v)).bind (fun v1 => cond v1 (flog_Do_1 nIFERROR [one1 v, one1 w] true _) (flog_Do_6 [one1 v, one1 w] 2 1 _ nIFERROR [one1 v, one1 w] false)) = _
  rw [xOddF v hv, Option.bind_some, bad, e1]
  cases vRight v <;> cases vRight w <;> rfl
theorem not_t : flog_Do nNOT [one1 (vTruth true)] = some (vTruth false) := of_depth 400 (by kernel_rfl)
theorem not_f : flog_Do nNOT [one1 (vTruth false)] = some (vTruth true) := of_depth 400 (by kernel_rfl)
theorem notB (b : Bool) : flog_Do nNOT [one1 (vTruth b)] = some (vTruth (!b)) := by cases b; exact not_f; exact not_t
theorem or_tt : flog_Do nOR [one1 (vTruth true), one1 (vTruth true)] = some (vTruth true) := of_depth 400 (by kernel_rfl)
theorem or_tf : flog_Do nOR [one1 (vTruth true), one1 (vTruth false)] = some (vTruth true) := of_depth 400 (by kernel_rfl)
theorem or_ft : flog_Do nOR [one1 (vTruth false), one1 (vTruth true)] = some (vTruth true) := of_depth 400 (by kernel_rfl)
theorem or_ff : flog_Do nOR [one1 (vTruth false), one1 (vTruth false)] = some (vTruth false) := of_depth 400 (by kernel_rfl)
theorem orB (a b : Bool) : flog_Do nOR [one1 (vTruth a), one1 (vTruth b)] = some (vTruth (a || b)) := by cases a <;> cases b; exact or_ff; exact or_ft; exact or_tf; exact or_tt
theorem and_tt : flog_Do nAND [one1 (vTruth true), one1 (vTruth true)] = some (vTruth true) := of_depth 400 (by kernel_rfl)
theorem and_tf : flog_Do nAND [one1 (vTruth true), one1 (vTruth false)] = some (vTruth false) := of_depth 400 (by kernel_rfl)
theorem and_ft : flog_Do nAND [one1 (vTruth false), one1 (vTruth true)] = some (vTruth false) := of_depth 400 (by kernel_rfl)
theorem and_ff : flog_Do nAND [one1 (vTruth false), one1 (vTruth false)] = some (vTruth false) := of_depth 400 (by kernel_rfl)
theorem andB (a b : Bool) : flog_Do nAND [one1 (vTruth a), one1 (vTruth b)] = some (vTruth (a && b)) := by cases a <;> cases b; exact and_ff; exact and_ft; exact and_tf; exact and_tt
theorem lSingle (v : Vl) : abacistlaw20_single v = some (one1 v) := abacistlaw20_single_eq v
theorem light2 (v w : Vl) : ∃ b, abacistlaw20_light [one1 v, one1 w] = some b := by
  have l1 : abacistlaw20_light_1 [one1 v, one1 w] 2 = some true := by rw [abacistlaw20_light_1_eq]; rfl
  have l2 : abacistlaw20_light_2 [one1 v, one1 w] 1 1 = some true := by
    rw [abacistlaw20_light_2_eq]
    exact l1
  have step : ∀ q (i k : Int) (r : Bool), abacistlaw20_light_2 [one1 v, one1 w] i (IntKind.i64.wrap (k + 1)) = some r → ∃ b, abacistlaw20_light_3 [one1 v, one1 w] i k q = some b := fun q i k r h => by
    rw [abacistlaw20_light_3_eq, h]
    cases q
    · exact ⟨r, rfl⟩
    · exact ⟨false, rfl⟩
  have three : ∀ (a b c : Bool) (x : Bool → Option Bool), (∀ q, ∃ r, x q = some r) → ∃ r, cond a (x true) (cond b (x true) (x c)) = some r := fun a b c x h => by
    cases a
    · cases b
      · exact h c
      · exact h true
    · exact h true
  have l3 : ∃ b, abacistlaw20_light_2 [one1 v, one1 w] 1 0 = some b := by
    rw [abacistlaw20_light_2_eq]
    exact three (decide ((w.2.2.1.length : Int) > 1000)) (decide ((w.2.1.2.1.length : Int) > 100)) (decide ((w.2.1.2.2.length : Int) > 100)) (abacistlaw20_light_3 [one1 v, one1 w] 1 0) fun q => step q 1 0 true l2
  obtain ⟨b3, l3⟩ := l3
  have l4 : abacistlaw20_light_1 [one1 v, one1 w] 1 = some b3 := by
    rw [abacistlaw20_light_1_eq]
    exact l3
  have l5 : abacistlaw20_light_2 [one1 v, one1 w] 0 1 = some b3 := by
    rw [abacistlaw20_light_2_eq]
    exact l4
  have l6 : ∃ b, abacistlaw20_light_2 [one1 v, one1 w] 0 0 = some b := by
    rw [abacistlaw20_light_2_eq]
    exact three (decide ((v.2.2.1.length : Int) > 1000)) (decide ((v.2.1.2.1.length : Int) > 100)) (decide ((v.2.1.2.2.length : Int) > 100)) (abacistlaw20_light_3 [one1 v, one1 w] 0 0) fun q => step q 0 0 b3 l5
  obtain ⟨b6, l6⟩ := l6
  refine ⟨b6, ?_⟩
  rw [abacistlaw20_light_eq]
  show abacistlaw20_light_1 [one1 v, one1 w] 0 = _
  rw [abacistlaw20_light_1_eq]
  exact l6
theorem rules20 (a b : Bool) (v w : Vl) (hv : v.2.2.1.length ≤ 9223372036854775807) (hw : w.2.2.1.length ≤ 9223372036854775807) : abacistlaw20_FlogRules a b v w = some true := by
  have last : abacistlaw20_FlogRules_1 false v w = some true := by
    rw [abacistlaw20_FlogRules_1_eq, cond_false, lSingle, Option.bind_some, lSingle, Option.bind_some]
    show (flog_Do nIFERROR [one1 v, one1 w]).bind _ = _
    rw [xIfError v w hv hw, Option.bind_some, yvRight, Option.bind_some, yvRight, Option.bind_some, known20, Option.bind_some]
    cases h1 : vRight v with
    | false => rfl
    | true =>
      cases h2 : vRight w with
      | false => rfl
      | true =>
        simp only [Bool.not_true, Bool.and_true, cond_false, cond_true]
        by_cases h3 : w.1 = 4
        · rw [decide_eq_true h3]; rfl
        · rw [decide_eq_false h3, cond_false]
          by_cases h4 : v.1 = 4
          · rw [decide_eq_true h4, cond_true, decide_eq_false h3]; rfl
          · rw [decide_eq_false h4, cond_false, decide_eq_false h4]; rfl
  obtain ⟨q, hq⟩ := light2 v w
  rw [abacistlaw20_FlogRules_eq, lSingle, Option.bind_some, lSingle, Option.bind_some, hq, Option.bind_some]
  cases q with
  | false => rw [known20]; rfl
  | true =>
    rw [Bool.not_true, cond_false, yvTruth, Option.bind_some, lSingle, Option.bind_some, yvTruth, Option.bind_some, lSingle, Option.bind_some]
    show (flog_Do nNOT [one1 (vTruth a)]).bind (fun v9 => (abacistlaw20_single v9).bind fun v10 => (flog_Do nNOT [one1 (vTruth b)]).bind fun v11 => (abacistlaw20_single v11).bind fun v12 => (flog_Do nNOT [v10]).bind fun v13 => (some (vTruth a)).bind fun v14 => cond (!eqV v13 v14) (abacistlaw20_FlogRules_1 true v w) ((flog_Do nOR [one1 (vTruth a), one1 (vTruth b)]).bind fun v15 => (flog_Do nAND [v10, v12]).bind fun v16 => (abacistlaw20_single v16).bind fun v17 => (flog_Do nNOT [v17]).bind fun v18 => abacistlaw20_FlogRules_1 (!eqV v15 v18) v w)) = _
    rw [notB, Option.bind_some, lSingle, Option.bind_some, notB, Option.bind_some, lSingle, Option.bind_some, notB, Option.bind_some, Option.bind_some, Bool.not_not, eqV_eq, decide_eq_true rfl, Bool.not_true, cond_false, orB, Option.bind_some, andB, Option.bind_some, lSingle, Option.bind_some, notB, Option.bind_some, eqV_eq, decide_eq_true (by cases a <;> cases b <;> rfl)]
    exact last
end Go.Proofs.YtljapieoihecbaaGreatDoor.D
namespace Go.Proofs.YtljapieoihecbaaGreatDoor.K
open Go
theorem FlogRules (a : Bool) (_ : Wf .bool a) (b : Bool) (_ : Wf .bool b) (v : Int × (Bool × List UInt8 × List UInt8) × List UInt8 × Bool × Int) (hv : Wf (.pair (.int .i64) (.pair (.pair .bool (.pair .str .str)) (.pair .str (.pair .bool (.int .i64))))) v) (w : Int × (Bool × List UInt8 × List UInt8) × List UInt8 × Bool × Int) (hw : Wf (.pair (.int .i64) (.pair (.pair .bool (.pair .str .str)) (.pair .str (.pair .bool (.int .i64))))) w) : abacistlaw20_FlogRules a b v w = some true := D.rules20 a b v w hv.2.2.1 hw.2.2.1
end Go.Proofs.YtljapieoihecbaaGreatDoor.K
